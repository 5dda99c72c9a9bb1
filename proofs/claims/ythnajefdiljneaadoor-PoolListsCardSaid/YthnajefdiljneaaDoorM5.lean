/- Texts of this claim, put together. -/
import Derived.Test.YthnajefdiljneaaDoorM4
import Derived.IntWalk
import Derived.Orders
import Derived.OrdersIn
import Derived.TacticsIn
import Derived.LoopNIn
import Derived.RangeFuncWrites
import Derived.RangeFuncLeaves
import Derived.Below
import Derived.ChangeArms
import Derived.OpenShut
import Derived.LaidSub
section
-- SQUEEZED
/- The abstract machine: memory that is new, written, or appended to. -/
namespace Go.Proofs.YthnajefdiljneaaDoor.AM
set_option linter.unusedSectionVars false
set_option linter.unusedVariables false
set_option linter.unusedSimpArgs false
def setR(ρ:Rho)(id:Nat)(p:Nat×Nat):Rho:=fun b=>if b=id then some p else ρ b
def setG(g:View)(id:Nat)(x:Blk):View:=fun b=>if b=id then some x else g b
def view(h:H):View:=fun b=>h[b]?
theorem view_append(h:H)(x:Blk):view (h++ [x])=setG (view h) h.length x:=by
 funext b
 simp only[view,setG]
 by_cases hb:b=h.length
 ·subst hb;simp
 ·rw[if_neg hb]
  rcases Nat.lt_or_ge b h.length with h1|h1
  ·rw[List.getElem?_append_left h1]
  ·rw[List.getElem?_eq_none (by simp;omega),List.getElem?_eq_none h1]
theorem view_set{h:H}{b:Nat}{y:Blk}(hb:h[b]?=some y)(x:Blk):view (h.set b x)=setG (view h) b x:=by
 funext c
 simp only[view,setG];rw[List.getElem?_set]
 by_cases hc:c=b
 ·subst hc;simp[lt_of_getl hb]
 ·rw[if_neg hc,if_neg (fun e=>hc e.symm)]
theorem view_length(h:H):view h h.length=none:=by simp[view]
section
variable {G:Nat→Option (List AV)} {A:Area} {ρ:Rho} {w w':World} {g:View}
theorem HR.lt(hr:HR G A ρ w g){b B k:Nat}(h:ρ b=some (B,k)):B<w.heap.size:=by
 cases hg:g b with
 |none=>rw [hr.dom b hg]at h;cases h
 |some x=>
  by_cases hx:x= .hole
  ·rw[hx]at hg;exact(hr.avo B k (hr.hole b hg B k h)).1
  ·obtain⟨B',k',h1,h2,_⟩:=hr.blk b x hg hx;rw[h]at h1;cases h1;exact h2
theorem HR.glob'{E:Env}(hr:HR E.G A ρ w g):Glob E (Forb A ρ g) ρ w:=hr.glob
theorem HR.alloc(hr:HR G A ρ w g){id:Nat}(hid:ρ id=none){obj:Obj}(hw:w'.heap=w.heap.push obj)(hst:SameS w w')(k:Nat)(x:Blk)(hxh:x≠ .hole:=by nofun):
  Ext (Own ρ g) ρ w (Own (setR ρ id (w.heap.size,k)) (setG g id x)) (setR ρ id (w.heap.size,k)) w'∧
  (BR (Forb A (setR ρ id (w.heap.size,k)) (setG g id x)) (setR ρ id (w.heap.size,k)) w' w.heap.size k x→HR G A (setR ρ id (w.heap.size,k)) w' (setG g id x)):=by
 have hne: ∀b p,ρ b=some p→b≠id:=fun b p hb he=>by rw[he,hid]at hb;cases hb
 obtain⟨h1,h2⟩:=hr.upd (ρ':=setR ρ id (w.heap.size,k)) (w':=w') (g':=setG g id x) w.heap.size hst
  (fun b p hb=>by simp[setR,hne b p hb,hb])
  (fun B hB _=>by rw[hw];simp[Array.getElem?_push,Nat.ne_of_lt hB])
  (fun cs e fz hb=>by have:=lt_of_get hb;omega)
  (fun h=>by omega) (by rw[hw];simp)
  (fun B off ⟨b,k',y,hb,hy,hal,hk⟩=>by
   simp only[setR,setG]at hb hy;split at hb
   ·cases hb;exact .inr (Nat.le_refl _)
   ·rename_i hbi;rw[if_neg hbi]at hy;exact .inl ⟨b,k',y,hb,hy,hal,hk⟩)
  (fun b B k' hb=>by
   simp only[setR]at hb;split at hb
   ·cases hb;exact .inr (.inr (Nat.le_refl _))
   ·exact .inl hb)
 refine⟨h1,fun hbr=>h2 (fun b hb=>?_) (fun b y hb=>?_) (fun b b' B k1 k2 y y' hb hb' hy hy' hal hal'=>?_) (fun b hb=>?_)⟩
 ·simp only[setG,setR]at hb ⊢
  split at hb
  ·cases hb
  ·rename_i hbi;rw[if_neg hbi];exact hr.dom b hb
 ·simp only[setG]at hb
  split at hb
  ·rename_i hbi
   cases hb;exact .inr ⟨w.heap.size,k,by simp[setR,hbi],by rw[hw];simp,hbr⟩
  ·exact .inl ⟨hb,fun _ B k' hB=>Nat.ne_of_lt (hr.lt hB)⟩
 ·simp only[setR,setG]at hb hb' hy hy'
  by_cases h1:b=id<;>by_cases h2:b'=id
  ·rw[h1,h2]
  ·rw[if_pos h1]at hb;rw[if_neg h2]at hb';cases hb;have:=hr.lt hb';omega
  ·rw[if_neg h1]at hb;rw[if_pos h2]at hb';cases hb';have:=hr.lt hb;omega
  ·rw[if_neg h1]at hb hy;rw[if_neg h2]at hb' hy';exact hr.sep b b' B k1 k2 y y' hb hb' hy hy' hal hal'
 ·simp only[setG]at hb
  split at hb
  ·cases hb;exact absurd rfl hxh
  ·rename_i hbi;exact⟨hb,by simp[setR,hbi]⟩
theorem HR.modify(hr:HR G A ρ w g){b0 B0:Nat}{x0:Blk}(hρ:ρ b0=some (B0,0))(hg0:g b0=some x0)(ha0:x0.alive=true){obj:Obj}(hw:w'.heap=w.heap.setIfInBounds B0 obj)(hst:SameS w w')
  (hs: ∀cs e fz,w.heap[B0]?=some (.cells cs e fz)→ ∃cs' fz',obj= .cells cs' e fz'∧cs'.size=cs.size) (x:Blk) (hxh:x≠ .hole:=by nofun):
  Ext (Own ρ g) ρ w (Own ρ (setG g b0 x)) ρ w'∧(BR (Forb A ρ (setG g b0 x)) ρ w' B0 0 x→HR G A ρ w' (setG g b0 x)):=by
 have hlt:=hr.lt hρ
 obtain⟨h1,h2⟩:=hr.upd (ρ':=ρ) (w':=w') (g':=setG g b0 x) B0 hst
  (fun b p hb=>hb)
  (fun B hB hne=>by rw[hw,Array.getElem?_setIfInBounds_ne (fun e=>hne e.symm)])
  (fun cs e fz hb=>by
   obtain⟨cs',fz',h1,h2⟩:=hs cs e fz hb
   refine⟨cs',fz',by rw[hw,h1];simp[Array.getElem?_setIfInBounds_self,hlt],h2,fun off _ ho=>absurd ⟨b0,0,x0,hρ,hg0,ha0,Nat.zero_le _⟩ ho⟩)
  (fun h=> .inl ⟨0,b0,0,x0,hρ,hg0,ha0,Nat.le_refl _⟩) (by rw[hw];simp)
  (fun B off ⟨b,k',y,hb,hy,hal,hk⟩=>by
   simp only[setG]at hy;split at hy
   ·rename_i hbi;subst hbi;rw[hρ]at hb;cases hb;exact .inl ⟨b,0,x0,hρ,hg0,ha0,Nat.zero_le _⟩
   ·exact .inl ⟨b,k',y,hb,hy,hal,hk⟩)
  (fun b B k' hb=> .inl hb)
 refine⟨h1,fun hbr=>h2 (fun b hb=>?_) (fun b y hb=>?_) (fun b b' B k1 k2 y y' hb hb' hy hy' hal hal'=>?_) (fun b hb=>by
  simp only[setG]at hb;split at hb
  ·cases hb;exact absurd rfl hxh
  ·exact⟨hb,rfl⟩)⟩
 ·simp only[setG]at hb
  split at hb
  ·cases hb
  ·exact hr.dom b hb
 ·simp only[setG]at hb
  split at hb
  ·rename_i hbi
   cases hb;exact .inr ⟨B0,0,by rw[hbi];exact hρ,by rw[hw];simpa using hlt,hbr⟩
  ·rename_i hbi
   exact .inl ⟨hb,fun hal B k' hB he=>hbi (hr.sep b b0 B k' 0 y x0 hB (by rw[he];exact hρ) hb hg0 hal ha0)⟩
 ·simp only[setG]at hy hy'
  have fix: ∀{c z},(if c=b0 then some x else g c)=some z→z.alive=true→ ∃z',g c=some z'∧z'.alive=true:=by
   intro c z hz hzal;split at hz
   ·rename_i hc;exact⟨x0,by rw[hc];exact hg0,ha0⟩
   ·exact⟨z,hz,hzal⟩
  obtain⟨z,hz,hza⟩:=fix hy hal;obtain⟨z',hz',hza'⟩:=fix hy' hal';exact hr.sep b b' B k1 k2 z z' hb hb' hz hz' hza hza'
theorem HR.kill(hr:HR G A ρ w g){b0:Nat}{x0:Blk}(hg0:g b0=some x0)(hx0:x0≠ .hole:=by nofun):
  Ext (Own ρ g) ρ w (Own ρ (setG g b0 .dead)) ρ w∧HR G A ρ w (setG g b0 .dead):=by
 obtain⟨h1,h2⟩:=hr.upd (ρ':=ρ) (w':=w) (g':=setG g b0 .dead) w.heap.size (SameS.refl w)
  (fun b p hb=>hb) (fun B hB hne=>rfl) (fun cs e fz hb=>by have:=lt_of_get hb;omega) (fun h=>by omega) (Nat.le_refl _)
  (fun B off ⟨b,k',y,hb,hy,hal,hk⟩=>by
   simp only[setG]at hy;split at hy
   ·cases hy;cases hal
   ·exact .inl ⟨b,k',y,hb,hy,hal,hk⟩)
  (fun b B k' hb=> .inl hb)
 refine⟨h1,h2 (fun b hb=>?_) (fun b y hb=>?_) (fun b b' B k1 k2 y y' hb hb' hy hy' hal hal'=>?_) (fun b hb=>by
  simp only[setG]at hb;split at hb
  ·cases hb
  ·exact⟨hb,rfl⟩)⟩
 ·simp only[setG]at hb
  split at hb
  ·cases hb
  ·exact hr.dom b hb
 ·simp only[setG]at hb
  split at hb
  ·rename_i hbi
   cases hb;obtain⟨B,k,hB,hlt,_⟩:=hr.blk b0 x0 hg0 hx0;exact .inr ⟨B,k,by rw[hbi];exact hB,hlt,trivial⟩
  ·exact .inl ⟨hb,fun hal B k' hB=>Nat.ne_of_lt (hr.lt hB)⟩
 ·simp only[setG]at hy hy'
  split at hy
  ·cases hy;cases hal
  ·split at hy'
   ·cases hy';cases hal'
   ·exact hr.sep b b' B k1 k2 y y' hb hb' hy hy' hal hal'
theorem HR.spend(hr:HR G A ρ w g){b0 B0 k0:Nat}{x0:Blk}(hρ:ρ b0=some (B0,k0))(hg0:g b0=some x0)(ha0:x0.alive=true){cs:Array Value}{e:TypeId}{fz fz':Nat×Nat}
  (hb:w.heap[B0]?=some (.cells cs e fz)) (hw:w'.heap=w.heap.setIfInBounds B0 (.cells cs e fz')) (hst:SameS w w'):
  Ext (Own ρ g) ρ w (Own ρ (setG g b0 .dead)) ρ w'∧HR G A ρ w' (setG g b0 .dead):=by
 have hlt:=hr.lt hρ
 obtain⟨h1,h2⟩:=hr.upd (ρ':=ρ) (w':=w') (g':=setG g b0 .dead) B0 hst
  (fun b p hb=>hb)
  (fun B hB hne=>by rw[hw,Array.getElem?_setIfInBounds_ne (fun e=>hne e.symm)])
  (fun cs1 e1 fz1 hb1=>by
   rw[hb]at hb1;cases hb1
   exact⟨cs,fz',by rw[hw];simp[Array.getElem?_setIfInBounds_self,hlt],rfl,fun off _ ho=>rfl⟩)
  (fun h=> .inl ⟨k0,b0,k0,x0,hρ,hg0,ha0,Nat.le_refl _⟩) (by rw[hw];simp)
  (fun B off ⟨b,k',y,hb,hy,hal,hk⟩=>by
   simp only[setG]at hy;split at hy
   ·cases hy;cases hal
   ·exact .inl ⟨b,k',y,hb,hy,hal,hk⟩)
  (fun b B k hb=> .inl hb)
 refine⟨h1,h2 (fun b hb=>?_) (fun b blk hgb=>?_) (fun b b' B k k' x x' hb hb' hy hy' hal hal'=>?_) (fun b hb=>?_)⟩
 ·simp only[setG]at hb
  split at hb
  ·cases hb
  ·exact hr.dom b hb
 ·simp only[setG]at hgb
  split at hgb
  ·rename_i hbi
   cases hgb;subst hbi;exact .inr ⟨B0,k0,hρ,by rw[hw];simpa using hlt,trivial⟩
  ·rename_i hbi
   refine .inl ⟨hgb,fun hal B k hk=>?_⟩;rintro rfl;exact hbi (hr.sep b b0 _ k k0 blk x0 hk hρ hgb hg0 hal ha0)
 ·simp only[setG]at hy hy'
  split at hy
  ·cases hy;cases hal
  ·split at hy'
   ·cases hy';cases hal'
   ·exact hr.sep b b' B k k' x x' hb hb' hy hy' hal hal'
 ·simp only[setG]at hb
  split at hb
  ·cases hb
  ·exact⟨hb,rfl⟩
theorem HR.onto(hr:HR G A ρ w g){b0 B0 k0 id k:Nat}{x0:Blk}(hρ:ρ b0=some (B0,k0))(hg0:g b0=some x0)(ha0:x0.alive=true)(hid:g id=none)(hk:k0≤k){cs cs':Array Value}{e:TypeId}{fz:Nat×Nat}
  (hb:w.heap[B0]?=some (.cells cs e fz)) (hw:w'.heap=w.heap.setIfInBounds B0 (.cells cs' e fz)) (hst:SameS w w') (hs:cs'.size=cs.size) (hsame: ∀off,off<k0→cs'[off]?=cs[off]?) (x:Blk) (hxh:x≠ .hole:=by nofun):
  Ext (Own ρ g) ρ w (Own (setR ρ id (B0,k)) (setG (setG g b0 .dead) id x)) (setR ρ id (B0,k)) w'∧
  (BR (Forb A (setR ρ id (B0,k)) (setG (setG g b0 .dead) id x)) (setR ρ id (B0,k)) w' B0 k x→HR G A (setR ρ id (B0,k)) w' (setG (setG g b0 .dead) id x)):=by
 have hlt:=hr.lt hρ
 have hne: ∀b p,ρ b=some p→b≠id:=fun b p hb he=>by rw[he,hr.dom id hid]at hb;cases hb
 have hb0:b0≠id:=hne _ _ hρ
 obtain⟨h1,h2⟩:=hr.upd (ρ':=setR ρ id (B0,k)) (w':=w') (g':=setG (setG g b0 .dead) id x) B0 hst
  (fun b p hb=>by simp[setR,hne b p hb,hb])
  (fun B hB hne=>by rw[hw,Array.getElem?_setIfInBounds_ne (fun e=>hne e.symm)])
  (fun cs1 e1 fz1 hb1=>by
   rw[hb]at hb1;cases hb1;refine⟨cs',fz,by rw[hw];simp[Array.getElem?_setIfInBounds_self,hlt],hs,fun off _ ho=>hsame off ?_⟩
   rcases Nat.lt_or_ge off k0 with h|h
   ·exact h
   ·exact absurd ⟨b0,k0,x0,hρ,hg0,ha0,h⟩ ho)
  (fun h=> .inl ⟨k0,b0,k0,x0,hρ,hg0,ha0,Nat.le_refl _⟩) (by rw[hw];simp)
  (fun B off ⟨b,k',y,hb,hy,hal,hk'⟩=>by
   simp only[setR,setG]at hb hy
   by_cases h1:b=id
   ·rw[if_pos h1]at hb;cases hb;exact .inl ⟨b0,k0,x0,hρ,hg0,ha0,by omega⟩
   ·rw[if_neg h1]at hb hy
    split at hy
    ·cases hy;cases hal
    ·exact .inl ⟨b,k',y,hb,hy,hal,hk'⟩)
  (fun b B k' hb=>by
   simp only[setR]at hb;split at hb
   ·cases hb;exact .inr (.inl ⟨b0,k0,x0,hρ,hg0,ha0,hk⟩)
   ·exact .inl hb)
 refine⟨h1,fun hbr=>h2 (fun b hb=>?_) (fun b y hb=>?_) (fun b b' B k1 k2 y y' hb hb' hy hy' hal hal'=>?_) (fun b hb=>by
  simp only[setG]at hb;split at hb
  ·cases hb;exact absurd rfl hxh
  ·rename_i hbi
   split at hb
   ·cases hb
   ·exact⟨hb,by simp[setR,hbi]⟩)⟩
 ·simp only[setG,setR]at hb ⊢
  split at hb
  ·cases hb
  ·rename_i hbi
   rw[if_neg hbi];split at hb
   ·cases hb
   ·exact hr.dom b hb
 ·simp only[setG]at hb
  split at hb
  ·rename_i hbi
   cases hb;exact .inr ⟨B0,k,by simp[setR,hbi],by rw[hw];simpa using hlt,hbr⟩
  ·rename_i hbi
   split at hb
   ·rename_i hbb
    cases hb;exact .inr ⟨B0,k0,by simp[setR,hbi];rw[hbb];exact hρ,by rw[hw];simpa using hlt,trivial⟩
   ·rename_i hbb
    exact .inl ⟨hb,fun hal B k' hB he=>hbb (hr.sep b b0 B k' k0 y x0 hB (by rw[he];exact hρ) hb hg0 hal ha0)⟩
 ·simp only[setR,setG]at hb hb' hy hy'
  have fix: ∀{c z p},c≠id→(if c=id then some x else if c=b0 then some .dead else g c)=some z→z.alive=true→(if c=id then some (B0,k)else ρ c)=some p→g c=some z∧c≠b0∧ρ c=some p:=by
   intro c z p hc hz hzal hp;rw[if_neg hc]at hz hp;split at hz
   ·cases hz;cases hzal
   ·rename_i hcb;exact⟨hz,hcb,hp⟩
  by_cases h1:b=id<;>by_cases h2:b'=id
  ·rw[h1,h2]
  ·obtain⟨hz,hcb,hp⟩:=fix h2 hy' hal' hb'
   rw[if_pos h1]at hb;cases hb;exact absurd (hr.sep b' b0 B0 k2 k0 y' x0 hp hρ hz hg0 hal' ha0) hcb
  ·obtain⟨hz,hcb,hp⟩:=fix h1 hy hal hb
   rw[if_pos h2]at hb';cases hb';exact absurd (hr.sep b b0 B0 k1 k0 y x0 hp hρ hz hg0 hal ha0) hcb
  ·obtain⟨hz,hcb,hp⟩:=fix h1 hy hal hb
   obtain⟨hz',hcb',hp'⟩:=fix h2 hy' hal' hb';exact hr.sep b b' B k1 k2 y y' hp hp' hz hz' hal hal'
end
end Go.Proofs.YthnajefdiljneaaDoor.AM
namespace Go.Proofs.YthnajefdiljneaaDoor.AM
set_option linter.unusedSectionVars false
set_option linter.unusedVariables false
set_option linter.unusedSimpArgs false
section
variable {F:Area} {ρ:Rho} {w:World}
theorem setCells_eq: ∀(xs cs:List AV) (off:Nat),off+xs.length≤cs.length→setCells cs off xs=cs.take off++xs++cs.drop (off+xs.length)
 | [],cs,off,h=>by simp[setCells]
 |x::xs,cs,off,h=>by
  simp only[setCells];simp only[List.length_cons]at h;rw[setCells_eq xs (cs.set off x) (off+1) (by simp;omega)];rw[List.take_set,List.drop_set_of_lt (by omega)]
  have h1:(cs.take (off+1)).set off x=cs.take off++ [x]:=by
   rw[List.take_succ_eq_append_getElem (by omega),List.set_append_right _ _ (by simp;omega)];simp[Nat.min_eq_left (show off≤cs.length by omega)]
  rw[h1];simp[Nat.add_assoc,Nat.add_comm 1]
theorem setCells_flat{l:List AV}{sz i:Nat}{v:AV}(h: ∀x,x∈l→x.cells.length=sz)(hv:v.cells.length=sz)(hi:i<l.length):setCells (flat l) (i*sz) v.cells=flat (l.set i v):=by
 have hle:i*sz+sz≤l.length*sz:=by have:=Nat.mul_le_mul_right sz (show i+1≤l.length from hi);rw[Nat.add_mul]at this;omega
 rw[setCells_eq _ _ _ (by rw[flat_length h,hv];exact hle),hv,flat_take h]
 have:i*sz+sz=(i+1)*sz:=by rw[Nat.add_mul];omega
 rw[this,flat_drop h,List.set_eq_take_append_cons_drop,if_pos hi,flat_append];show _=_++(v.cells++flat _);rw[List.append_assoc]
theorem mem_set{l:List AV}{i:Nat}{v x:AV}(h:x∈l.set i v):x=v∨x∈l:=by
 rcases List.mem_or_eq_of_mem_set h with h|h
 ·exact .inr h
 ·exact .inl h
theorem fillE_fillA{sz:Nat}: ∀{parts:List (Nat×AV)} {l l':List AV},fillE sz l parts= .ok l'→(∀x,x∈l→x.cells.length=sz)→
  fillA (fun i=>some (i*sz,sz)) (flat l) parts= .ok (flat l')∧(∀x,x∈l'→x.cells.length=sz)∧l'.length=l.length
 | [],l,l',h,hs=>by cases h;exact⟨rfl,hs,rfl⟩
 |(i,v)::parts,l,l',h,hs=>by
  simp only[fillE]at h;split at h
  ·rename_i hc
   have hle:i*sz+sz≤l.length*sz:=by have:=Nat.mul_le_mul_right sz (show i+1≤l.length from hc.2);rw[Nat.add_mul]at this;omega
   obtain⟨h1,h2,h3⟩:=fillE_fillA h (fun x hx=>by
    rcases mem_set hx with rfl|hx
    ·exact hc.1
    ·exact hs x hx)
   refine⟨?_,h2,by rw[h3];simp⟩;simp only[fillA];rw[if_pos ⟨hc.1,by rw[flat_length hs];exact hle⟩,setCells_flat hs hc.1 hc.2];exact h1
  ·cases h
theorem replicate_sz{n sz:Nat}{z:AV}(hz:z.cells.length=sz): ∀x,x∈List.replicate n z→x.cells.length=sz:=fun x hx=>by rw[(List.mem_replicate.1 hx).2];exact hz
theorem zeros_cr{n sz:Nat}{zc:Array Value}{z:AV}(h:CRs F ρ w zc.toList z.cells)(hz:z.cells.length=sz):
  CRs F ρ w ((Array.range (n*sz)).map (fun i=>zc[i%zc.size]!)).toList (flat (List.replicate n z)):=by
 have hzs:zc.size=sz:=by have:=h.1;simp at this;omega
 refine⟨by rw[flat_length (replicate_sz hz)];simp,fun q v y hv hy=>?_⟩;obtain⟨i,j,x,rfl,hx,hxy⟩:=flat_split (replicate_sz hz) hy
 have hj:=lt_of_getl hxy
 have hxz:x=z:=(List.mem_replicate.1 (List.mem_of_getElem? hx)).2;subst hxz;rw[hz]at hj
 have hi:=lt_of_getl hx
 simp only[List.length_replicate]at hi
 have hq:i*sz+j<n*sz:=by have:=Nat.mul_le_mul_right sz (show i+1≤n from hi);rw[Nat.add_mul]at this;omega
 rw[Array.getElem?_toList,Array.getElem?_map,Array.getElem?_range,if_pos hq]at hv;simp only[Option.map_some,Option.some.injEq]at hv
 have hm:(i*sz+j)%zc.size=j:=by rw[hzs,Nat.mul_comm,Nat.mul_add_mod,Nat.mod_eq_of_lt hj]
 rw[hm]at hv;obtain⟨u,hu,hc⟩:=h.get hxy;rw[Array.getElem?_toList]at hu
 have:zc[j]! =u:=by
  have:=lt_of_get hu;rw[getElem!_pos zc j this];rw[Array.getElem?_eq_getElem this]at hu;exact Option.some.inj hu
 rw[←hv,this];exact hc
variable {G:Nat→Option (List AV)} {A:Area} {g:View} {w':World}
theorem newSl_ok(E:Env)(f:FuncId)(dst:Option Nat){id:Nat}(hr:HR G A ρ w g)(hid:ρ id=none){cs:Array Value}{e:TypeId}{fz:Nat×Nat}(hw:w'.heap=w.heap.push (.cells cs e fz))(hst:SameS w w')(hfz:Thawed fz 0 cs.size){sz:Nat}{l:List AV}
  (hel:Elems (Forb A ρ g) ρ w cs 0 sz l) {c:Nat} (hl:l.length≤c) (hc:c*sz≤cs.size): ∃k,
  Ext (Own ρ g) ρ w (Own (setR ρ id (w.heap.size,k)) (setG g id (newSl E f dst id sz l).2)) (setR ρ id (w.heap.size,k)) w'∧
  HR G A (setR ρ id (w.heap.size,k)) w' (setG g id (newSl E f dst id sz l).2)∧
  CR (Forb A (setR ρ id (w.heap.size,k)) (setG g id (newSl E f dst id sz l).2)) (setR ρ id (w.heap.size,k)) w' (.slice (some ⟨w.heap.size,0,none⟩) l.length c) (newSl E f dst id sz l).1:=by
 have hb:w'.heap[w.heap.size]?=some (.cells cs e fz):=by rw[hw];simp
 have hlc:=Nat.mul_le_mul_right sz hl
 cases hlb:locB E f dst
 case true=>
  rw[show newSl E f dst id sz l=(.sl id 0 l.length sz false, .arr sz l) by simp[newSl,hlb]];obtain⟨h1,h2⟩:=hr.alloc (w':=w') hid hw hst 0 (.arr sz l);refine⟨0,h1,h2 ⟨rfl,cs,e,fz,hb,hfz,by omega,hel.mono h1.sub h1.keeps⟩,?_⟩;exact .sl (by simp[setR]) hb (by rw[Nat.zero_add];exact hc) hl (fun h=>by cases h) (.inr (by simp))
 case false=>
  rw[show newSl E f dst id sz l=(.lst sz l (.own id), .tail) by simp[newSl,hlb]];obtain⟨h1,h2⟩:=hr.alloc (w':=w') hid hw hst (l.length*sz) .tail;refine⟨l.length*sz,h1,h2 ⟨cs,e,fz,hb,fun off h1 h2=>hfz off (Nat.zero_le _) h2⟩,?_⟩;refine .lst_of hb (fun j hj=>?_) (hel.mono h1.sub h1.keeps) hl (by omega) (fun h=>by cases h) (fun t ht _=>by cases ht;simp[setR]);rintro(⟨b,k,y,hb',hy,hal,hk⟩|ha)
  ·simp only[setR,setG]at hb' hy
   split at hb'
   ·cases hb';omega
   ·have:=hr.lt hb';omega
  ·have:=(hr.avo _ _ ha).1;omega
theorem thawed0(n:Nat):Thawed (0,0) 0 n:=fun off _ _ h=>by omega
variable {E:Env} {a:Act} {τ:Fr}
theorem elems_of_crs{cs:Array Value}{sz:Nat}{l:List AV}(hs: ∀x,x∈l→x.cells.length=sz)(h:CRs F ρ w cs.toList (flat l)):Elems F ρ w cs 0 sz l:=by
 refine⟨hs,?_⟩
 have:cs.toList.length=l.length*sz:=by rw[h.1,flat_length hs]
 rw[List.drop_zero,List.take_of_length_le (by omega)];exact h
theorem push_modify(h:Array Obj)(o:Obj)(f:Obj→Obj):(h.push o).modify h.size f=h.push (f o):=by
 apply Array.ext_getElem?;intro i;rw[Array.getElem?_modify,Array.getElem?_push,Array.getElem?_push]
 by_cases hi:h.size=i
 ·subst hi;simp
 ·rw[if_neg hi,if_neg (fun e=>hi e.symm),if_neg (fun e=>hi e.symm)]
def byteRow(s:ByteArray)(n:Nat):Array Value:=(s.data.map fun(b:UInt8)=>Value.int .u8 b.toNat)++Array.replicate n (Value.int .u8 0)
theorem range0{β:Type}(f:Nat→β):Array.map f (Array.range 0)= #[]:=by apply Array.ext';simp
theorem run_size_of{P:Program}{t:TypeId}{i:TypeInfo}(h:info P t= .ok i)(w:World):(sizeOf t).run P w= .ok i.size w:=by simp[sizeOf,typeInfo,info_ok h]
theorem allocA_run(hr:HR E.G A ρ w g)(hf:FRel (Forb A ρ g) ρ w a.tmps τ){f:FuncId}{id:Nat}(hid:ρ id=none){o:Oper}{y:AV}{x:Blk}(h:allocA E f τ id o= .ok (y,x)):
  ∃v w' k,(execOp a.eval o).run E.P w= .ok (.value v) w'∧
   Ext (Own ρ g) ρ w (Own (setR ρ id (w.heap.size,k)) (setG g id x)) (setR ρ id (w.heap.size,k)) w'∧HR E.G A (setR ρ id (w.heap.size,k)) w' (setG g id x)∧
   CR (Forb A (setR ρ id (w.heap.size,k)) (setG g id x)) (setR ρ id (w.heap.size,k)) w' v y:=by
 have hg:=hr.glob'
 unfold execOp
 cases ho:o.op with
 |alloc t=>
  simp only[allocA,ho]at h;obtain⟨z,hz,h⟩:=R.bind_ok h;cases h;obtain⟨zv,hzr,hzo⟩:=run_zero hz w;have hzc:=(ofV_cr (F:=Forb A ρ g) (ρ:=ρ) (w:=w) hzo).cells;obtain⟨h1,h2⟩:=hr.alloc (w':={w with heap:=w.heap.push (.cells zv.cells t)}) hid rfl ⟨rfl,rfl,rfl⟩ 0 (.var z.cells);refine⟨.pointer (some ⟨w.heap.size,0,none⟩),_,0,?_,h1,h2 ⟨rfl,zv.cells,t,(0,0),by simp,thawed0 _,hzc.mono h1.sub h1.keeps⟩, .ptr (by simp[setR])⟩;simp[Instr.alloc,hzr,newVar,newRow]
 |box t b=>
  simp only[allocA,ho]at h;obtain⟨v,hv,h⟩:=R.bind_ok h
  split at h<;>cases h
  have hzc:=(ev_cr hf hg hv).cells
  obtain⟨h1,h2⟩:=hr.alloc (w':={w with heap:=w.heap.push (.cells (a.eval b).cells t)}) hid rfl ⟨rfl,rfl,rfl⟩ 0 (.var v.cells);refine⟨.pointer (some ⟨w.heap.size,0,none⟩),_,0,?_,h1,h2 ⟨rfl,_,t,(0,0),by simp,thawed0 _,hzc.mono h1.sub h1.keeps⟩, .ptr (by simp[setR])⟩;simp[Instr.box,newVar,newRow]
 |makeMap t r=>
  cases r with
  |some r=>simp only[allocA,ho]at h;cases h
  |none=>
   simp only[allocA,ho]at h;cases h;obtain⟨h1,h2⟩:=hr.alloc (w':={w with heap:=w.heap.push (.map #[] 0)}) hid rfl ⟨rfl,rfl,rfl⟩ 0 (.map []);refine⟨.map (some w.heap.size),_,0,?_,h1,h2 ⟨rfl, #[],0,by simp,rfl,fun i e x h=>by simp at h⟩, .map (by simp[setR])⟩;simp[Instr.makeMap]
 |buildSlice t n parts=>
  simp only[allocA,ho]at h;obtain⟨vs,hvs,h⟩:=R.bind_ok h;obtain⟨d,hd,h⟩:=R.bind_ok h;split at h
  ·rename_i e
   obtain⟨sz,hsz,h⟩:=R.bind_ok h;obtain⟨z,hz,h⟩:=R.bind_ok h;split at h
   ·rename_i hc
    obtain⟨l,hl,h⟩:=R.bind_ok h
    have h:=R.ok.inj h
    obtain⟨h1,h2⟩:=parts_cr hf hg hvs;obtain⟨g1,g2,g3⟩:=fillE_fillA hl (replicate_sz hc.1);obtain⟨i,zv,hi,hzv,hzo⟩:=zero_info hz;obtain⟨i',hi',hsz'⟩:=size_info hsz;rw[hi]at hi';cases hi';have hzc:=(ofV_cr (F:=Forb A ρ g) (ρ:=ρ) (w:=w) hzo).cells;have hzz:=zeros_cr (n:=n) hzc hc.1;obtain⟨cs',hfill,hcr⟩:=fillA_run g1 h1 h2 hzz
    have hsize:cs'.size=n*sz:=by
     have:=hcr.1;rw[flat_length g2,g3]at this
     simpa using this
    have hrun:(Instr.buildSlice t n (parts.map fun(i,x)=>(i,a.eval x))).run E.P w= .ok (.slice (some ⟨w.heap.size,0,none⟩) n n) {w with heap:=w.heap.push (.cells cs' e)}:=by
     have hzr:(zeroValue e).run E.P w= .ok zv w:=by simp[zeroValue,typeInfo,hi,hzv]
     have e24: ¬(n*sz>2 ^ 24):=by have:=hc.2;omega
     simp only[Instr.buildSlice,Sem.run_bind,run_under hd,Result.andThen_ok,run_size hsz,Sem.run_ite,if_neg e24,Sem.run_pure]
     by_cases h0:n*sz=0
     ·simp only[h0,if_true]
      have hz0:(Array.map (fun x=>(#[]:Array Value)[x%(#[]:Array Value).size]!) (Array.range 0))=((Array.range (n*sz)).map (fun i=>zv.cells[i%zv.cells.size]!)):=by rw[h0,range0,range0]
      have hfill':Instr.fill (fun i=>some (i*sz,sz)) ((Array.range (n*sz)).map (fun i=>zv.cells[i%zv.cells.size]!)) (Array.map (fun x=>(x.fst,a.eval x.snd)) parts).toList=some cs':=hfill;rw[hz0,hfill'];simp[newRow]
     ·simp only[if_neg h0,Sem.run_bind,hzr,Result.andThen_ok,Sem.run_pure]
      have hfill':Instr.fill (fun i=>some (i*sz,sz)) (Array.map (fun x=>zv.cells[x%zv.cells.size]!) (Array.range (n*sz))) (Array.map (fun x=>(x.fst,a.eval x.snd)) parts).toList=some cs':=hfill;rw[hfill'];simp[newRow]
    obtain⟨k,k1,k2,k3⟩:=newSl_ok E f o.dst (w':={w with heap:=w.heap.push (.cells cs' e)}) hr hid rfl ⟨rfl,rfl,rfl⟩ (thawed0 _) (elems_of_crs g2 hcr) (c:=n) (by rw[g3];simp) (by rw[hsize];exact Nat.le_refl _);rw[g3,List.length_replicate,h]at k3;rw[h]at k1 k2;exact⟨_,_,k,by simp only[Sem.run_bind,hrun,Result.andThen_ok];rfl,k1,k2,k3⟩
   ·cases h
  ·cases h
 |makeSlice t ol oc=>
  simp only[allocA,ho]at h;obtain⟨d,hd,h⟩:=R.bind_ok h;split at h
  ·rename_i e
   obtain⟨i,hi,h⟩:=R.bind_ok h;obtain⟨z,hz,h⟩:=R.bind_ok h;obtain⟨l,hl,h⟩:=R.bind_ok h;obtain⟨c,hc,h⟩:=R.bind_ok h;obtain⟨n,hn,h⟩:=R.bind_ok h;obtain⟨m,hm,h⟩:=R.bind_ok h;split at h
   ·rename_i hcond
    have h:=R.ok.inj h
    obtain⟨k1,e1⟩:=intA_eq hn (ev_cr hf hg hl);obtain⟨k2,e2⟩:=intA_eq hm (ev_cr hf hg hc);obtain⟨i',zv,hi',hzv,hzo⟩:=zero_info hz;rw[info_ok hi]at hi';cases hi';have hzc:=(ofV_cr (F:=Forb A ρ g) (ρ:=ρ) (w:=w) hzo).cells;have hzz:=zeros_cr (n:=m.toNat) hzc hcond.2.2.2.2
    have hnm:n.toNat≤m.toNat:=by omega
    have hn0:(n.toNat:Int)=n:=by omega
    have hrun:(Instr.makeSlice t (a.eval ol) (a.eval oc)).run E.P w= .ok (.slice (some ⟨w.heap.size,0,none⟩) n.toNat m.toNat) {w with heap:=w.heap.push (.cells ((Array.range (m.toNat*i.size)).map (fun q=>zv.cells[q%zv.cells.size]!)) e)}:=by
     have hzr:(zeroValue e).run E.P w= .ok zv w:=by simp[zeroValue,typeInfo,info_ok hi,hzv]
     have w1:IntKind.i64.wrap n=n:=IntWalk.i64_in _ (by omega);have w2:IntKind.i64.wrap m=m:=IntWalk.i64_in _ (by omega)
     have hb1: ¬((i.bytes:Int)*m>2 ^ 48):=by
      have h1:=hcond.2.2.1
      rw[Int.mul_comm];have:(m*(i.bytes:Int))≤140737488355328:=h1;omega
     have hbad:((decide (m<0)||decide ((i.bytes:Int)*m>2 ^ 48))||decide (n<0)||decide (n>m))=false:=by
      simp only[Bool.or_eq_false_iff,decide_eq_false_iff_not];exact⟨⟨⟨by omega,hb1⟩,by omega⟩,by omega⟩
     simp only[Instr.makeSlice,Sem.run_bind,run_under hd,run_info hi,e1,e2,asInt,asIntOf,Sem.run_pure,Result.andThen_ok,w1,w2,hbad,Sem.run_ite,Bool.false_eq_true,if_false,run_askRoom,run_size_of hi]
     by_cases h0:m.toNat*i.size=0
     ·simp only[h0,if_true,Result.andThen_ok,Sem.run_pure,range0]
      simp[newRow]
     ·simp only[if_neg h0,Sem.run_bind,hzr,Result.andThen_ok,Sem.run_pure]
      simp[newRow]
    have hel:Elems (Forb A ρ g) ρ w ((Array.range (m.toNat*i.size)).map (fun q=>zv.cells[q%zv.cells.size]!)) 0 i.size (List.replicate n.toNat z):=by
     have h1:=(elems_of_crs (replicate_sz hcond.2.2.2.2) hzz).cut 0 n.toNat
     rw[List.drop_zero,List.take_replicate,Nat.min_eq_left hnm]at h1
     simpa using h1
    obtain⟨k,q1,q2,q3⟩:=newSl_ok E f o.dst (w':={w with heap:=w.heap.push (.cells ((Array.range (m.toNat*i.size)).map (fun q=>zv.cells[q%zv.cells.size]!)) e)}) hr hid rfl ⟨rfl,rfl,rfl⟩ (thawed0 _) hel (c:=m.toNat) (by simpa using hnm) (by simp);rw[List.length_replicate,h]at q3;rw[h]at q1 q2;exact⟨_,_,k,by simp only[Sem.run_bind,hrun,Result.andThen_ok];rfl,q1,q2,q3⟩
   ·cases h
  ·cases h
 |convert src dst b=>
  simp only[allocA,ho]at h;obtain⟨u,hu,h1⟩:=R.bind_ok h;clear h;obtain⟨us,hus,h2⟩:=R.bind_ok h1;clear h1;obtain⟨ud,hud,h⟩:=R.bind_ok h2;clear h2
  have e1:=run_under hus w
  have e2:=run_under hud w
  have hcu:=ev_cr hf hg hu
  obtain⟨v,hv⟩: ∃v,a.eval b=v:=⟨_,rfl⟩;rw[hv]at hcu;clear hus hud hu;split at h
  ·rename_i e s
   obtain⟨ue,hue,h⟩:=R.bind_ok h
   have e3:=run_under hue w
   split at h
   ·obtain⟨sz,hsz,h⟩:=R.bind_ok h
    by_cases hsz1:sz=1
    ·rw[if_pos hsz1]at h
     have h:=R.ok.inj h
     cases hcu
     have hlen:(ofBytes s).length=s.size:=by simp[ofBytes]
     have hcs: ∀(n:Nat),CRs (Forb A ρ g) ρ w (byteRow s n).toList (ofBytes s++List.replicate n (AV.int .u8 0)):=by
      intro n;rw[byteRow,Array.toList_append];refine CRs.append ⟨by simp[ofBytes],fun j v y hv hy=>?_⟩ ⟨by simp,fun j v y hv hy=>?_⟩
      ·simp only[ofBytes,Array.toList_map,List.getElem?_map]at hv hy
       cases hq:s.data.toList[j]? with
       |none=>simp [hq]at hv
       |some b=>simp [hq]at hv hy;subst hv;subst hy;exact .int _ _
      ·rw[Array.getElem?_toList]at hv
       have h1:=List.mem_of_getElem? hy
       rw[(List.mem_replicate.1 h1).2]
       have h2:=Array.mem_of_getElem? hv
       rw[(Array.mem_replicate.1 h2).2];exact .int _ _
     generalize hcap:(Question.appendCap s.size 0 e).cut (w.tape w.drawn (.appendCap s.size 0 e))=cap
     have hcle:s.size≤cap:=by rw[←hcap];simp only[Question.cut];omega
     have hlf: ∀y,y∈ofBytes s→y.cells.length=1:=fun y hy=>by
      obtain⟨b,_,rfl⟩:=List.mem_map.1 hy;rfl
     have hlf2: ∀y,y∈ofBytes s++List.replicate (cap-s.size) (AV.int .u8 0)→y.leaf=true:=fun y hy=>by
      rcases List.mem_append.1 hy with hy|hy
      ·obtain⟨b,_,rfl⟩:=List.mem_map.1 hy;rfl
      ·rw[(List.mem_replicate.1 hy).2];rfl
     have hszc:(byteRow s (cap-s.size)).size=cap:=by
      have:s.data.size=s.size:=rfl;simp[byteRow];omega
     have hel:Elems (Forb A ρ g) ρ w (byteRow s (cap-s.size)) 0 1 (ofBytes s):=by
      have h1:=(elems_of_crs (sz:=1) (fun y hy=>by rw[leaf_cells (hlf2 y hy)];rfl) (by rw[flat_leaf hlf2];exact hcs (cap-s.size))).cut 0 s.size;rw[List.drop_zero,List.take_append,List.take_of_length_le (by omega)]at h1
      have:s.size-(ofBytes s).length=0:=by omega
      rw[this,List.take_zero,List.append_nil]at h1
      simpa using h1
     obtain⟨k,q1,q2,q3⟩:=newSl_ok E f o.dst (w':={w with heap:=w.heap.push (.cells (byteRow s (cap-s.size)) e (cap,cap+1)),drawn:=w.drawn+1}) hr hid rfl ⟨rfl,rfl,rfl⟩ (fun off _ h2 h3=>by rw[hszc]at h2;omega) hel (c:=cap) (by omega) (by rw[hszc];omega);rw[hlen,h]at q3;rw[h]at q1 q2;refine⟨_,_,k,?_,q1,q2,q3⟩;simp only[Sem.run_bind,hv,convert,e1,e2,e3,Result.andThen_ok];have hfc:(Question.appendCap s.size 0 e).forced=false:=rfl;simp only[Conv.stringToBytes,Sem.run_bind,run_choose,hfc,Bool.false_eq_true,if_false,Result.andThen_ok,hcap,newRow,run_newObj,Sem.run_pure,markStringish,run_shape]
     have hrow:((s.data.map fun(b:UInt8)=>Value.int .u8 b.toNat)++Array.replicate (cap-s.size) (Value.int .u8 0))=byteRow s (cap-s.size):=rfl
     have hshape:(World.shape? {w with heap:=w.heap.push (.cells (byteRow s (cap-s.size)) e),drawn:=w.drawn+1} w.heap.size)=some (e,cap):=by simp[World.shape?,hszc]
     rw[hrow];simp only[hshape,run_freeze,Result.andThen_ok]
     have hfr:World.freeze {w with heap:=w.heap.push (.cells (byteRow s (cap-s.size)) e),drawn:=w.drawn+1} {block:=w.heap.size,off:=cap} 1={w with heap:=w.heap.push (.cells (byteRow s (cap-s.size)) e (cap,cap+1)),drawn:=w.drawn+1}:=by
      simp[World.freeze,push_modify]
     rw[hfr]
    ·rw[if_neg hsz1]at h;cases h
   ·cases h
  ·cases h
 |_=>simp only[allocA,ho]at h;cases h
end
end Go.Proofs.YthnajefdiljneaaDoor.AM
namespace Go.Proofs.YthnajefdiljneaaDoor.AM
set_option linter.unusedSectionVars false
set_option linter.unusedVariables false
set_option linter.unusedSimpArgs false
section
variable {F:Area} {ρ:Rho} {w:World}
def putL(cs:Array Value)(k:Nat):List Value→Array Value
 | []=>cs
 |v::vs=>putL (cs.setIfInBounds k v) (k+1) vs
theorem putL_size: ∀(vs:List Value) (cs:Array Value) (k:Nat),(putL cs k vs).size=cs.size
 | [],cs,k=>rfl
 |v::vs,cs,k=>by simp[putL,putL_size vs]
theorem putL_get: ∀(vs:List Value) (cs:Array Value) (k j:Nat),k+vs.length≤cs.size→(putL cs k vs)[j]?=if k≤j∧j<k+vs.length then vs[j-k]? else cs[j]?
 | [],cs,k,j,h=>by simp only[putL,List.length_nil];rw[if_neg (by omega)]
 |v::vs,cs,k,j,h=>by
  simp only[List.length_cons]at h;simp only[putL,List.length_cons];rw[putL_get vs _ (k+1) j (by simp;omega)]
  by_cases h1:k+1≤j∧j<k+1+vs.length
  ·rw[if_pos h1,if_pos (by omega),show j-k=(j-(k+1))+1 by omega,List.getElem?_cons_succ]
  ·rw[if_neg h1]
   by_cases h2:j=k
   ·subst h2
    rw[if_pos (by omega),Nat.sub_self,Array.getElem?_setIfInBounds_self_of_lt (by omega)];rfl
   ·rw[if_neg (by omega),Array.getElem?_setIfInBounds_ne (by omega)]
theorem putL_cr: ∀{vs:List Value} {cs:Array Value} {k:Nat} {acs l:List AV},CRs F ρ w cs.toList acs→CRs F ρ w vs l→CRs F ρ w (putL cs k vs).toList (setCells acs k l)
 | [],cs,k,acs,l,h,h'=>by
   obtain rfl:l= []:=by have:=h'.1;cases l<;>simp_all
   exact h
 |v::vs,cs,k,acs,l,h,h'=>by
  cases l with
  |nil=>have:=h'.1;simp at this
  |cons y l=>
   simp only[putL,setCells]
   refine putL_cr ?_ h'.tail
   rw[Array.toList_setIfInBounds];exact h.set h'.head _
theorem set_same{h:Array Obj}{B:Nat}{o:Obj}(hb:h[B]?=some o):h.setIfInBounds B o=h:=by
 apply Array.ext_getElem?;intro i
 by_cases hi:B=i
 ·subst hi;rw[Array.getElem?_setIfInBounds_self_of_lt (lt_of_get hb),hb]
 ·rw[Array.getElem?_setIfInBounds_ne hi]
theorem set_twice(h:Array Obj)(B:Nat)(o o':Obj):(h.setIfInBounds B o).setIfInBounds B o'=h.setIfInBounds B o':=by
 apply Array.ext_getElem?;intro i
 by_cases hi:B=i
 ·subst hi
  by_cases hlt:B<h.size
  ·rw[Array.getElem?_setIfInBounds_self_of_lt (by simpa using hlt),Array.getElem?_setIfInBounds_self_of_lt hlt]
  ·rw[Array.getElem?_eq_none (by simp;omega),Array.getElem?_eq_none (by simp;omega)]
 ·rw[Array.getElem?_setIfInBounds_ne hi,Array.getElem?_setIfInBounds_ne hi,Array.getElem?_setIfInBounds_ne hi]
theorem setCell_eq{B off:Nat}{cs:Array Value}{e:TypeId}{fz:Nat×Nat}(hb:w.heap[B]?=some (.cells cs e fz))(v:Value):w.setCell ⟨B,off,none⟩ v={w with heap:=w.heap.setIfInBounds B (.cells (cs.setIfInBounds off v) e fz)}:=by
 unfold World.setCell
 congr 1
 apply Array.ext_getElem?;intro i;rw[Array.getElem?_modify]
 by_cases hi:B=i
 ·subst hi;rw[if_pos rfl,hb,Array.getElem?_setIfInBounds_self_of_lt (lt_of_get hb)];simp
 ·rw[if_neg hi,Array.getElem?_setIfInBounds_ne hi]
theorem storeCells_run{P:Program}{B o:Nat}{e:TypeId}{fz:Nat×Nat}: ∀(vs:List Value) (i:Nat) (cs:Array Value) (w:World),w.heap[B]?=some (.cells cs e fz)→o+i+vs.length≤cs.size→Thawed fz (o+i) cs.size→(∀v∈vs,v.oneCell'=true)→
  (storeCells ⟨B,o,none⟩ vs i).run P w= .ok () {w with heap:=w.heap.setIfInBounds B (.cells (putL cs (o+i) vs) e fz)}
 | [],i,cs,w,hb,hl,hf,h1=>by simp[storeCells,putL,set_same hb]
 |v::vs,i,cs,w,hb,hl,hf,h1=>by
  simp only[List.length_cons]at hl
  have hc:w.cell? ⟨B,o+i,none⟩=some cs[o+i]:=by simp[World.cell?,hb]
  have hfr:w.frozen? ⟨B,o+i,none⟩=false:=by
   have:=hf (o+i) (Nat.le_refl _) (by omega);simp only[World.frozen?,hb]
   simpa using fun h=>by omega
  simp only[storeCells,Sem.run_bind,add0];rw[run_store P w _ v _ (h1 v (List.mem_cons_self ..))];simp only[hc,hfr,Bool.false_eq_true,if_false,Result.andThen_ok];rw[setCell_eq hb]
  have ih:=storeCells_run (P:=P) (B:=B) (o:=o) (e:=e) (fz:=fz) vs (i+1) (cs.setIfInBounds (o+i) v) {w with heap:=w.heap.setIfInBounds B (.cells (cs.setIfInBounds (o+i) v) e fz)}
   (by rw[Array.getElem?_setIfInBounds_self_of_lt (lt_of_get hb)]) (by simp;omega) (fun off h1 h2=>hf off (by omega) (by simpa using h2)) (fun u hu=>h1 u (List.mem_cons_of_mem _ hu))
  rw[ih];simp only[set_twice,putL,Nat.add_assoc]
theorem leaf_one{v:Value}{y:AV}(h:CR F ρ w v y)(hl:y.leaf=true):v.oneCell'=true:=by
 cases h<;>first|rfl|(simp[AV.leaf]at hl)
theorem leaves_one: ∀{vs:List Value} {l:List AV},CRs F ρ w vs l→l.all AV.leaf=true→ ∀v∈vs,v.oneCell'=true
 | [],l,h,hl,v,hv=>by simp at hv
 |u::vs,l,h,hl,v,hv=>by
  cases l with
  |nil=>have:=h.1;simp at this
  |cons y l=>
   simp only[List.all_cons,Bool.and_eq_true]at hl
   rcases List.mem_cons.1 hv with rfl|hv
   ·exact leaf_one h.head hl.1
   ·exact leaves_one h.tail hl.2 v hv
theorem setCells_get(xs cs:List AV)(k j:Nat)(h:k+xs.length≤cs.length):(setCells cs k xs)[j]?=if k≤j∧j<k+xs.length then xs[j-k]? else cs[j]?:=by
 rw[setCells_eq xs cs k h,List.append_assoc]
 by_cases h1:j<k
 ·rw[List.getElem?_append_left (by simp;omega),if_neg (by omega),List.getElem?_take,if_pos h1]
 ·rw[List.getElem?_append_right (by simp;omega)]
  have e1:(cs.take k).length=k:=by simp;omega
  rw[e1]
  by_cases h2:j<k+xs.length
  ·rw[List.getElem?_append_left (by omega),if_pos (by omega)]
  ·rw[List.getElem?_append_right (by omega),if_neg (by omega),List.getElem?_drop]
   congr 1;omega
theorem mk_cells{x:AV}{off:Nat}{vc:List AV}(hl:vc.all AV.leaf=true)(h:off+vc.length≤x.cells.length):(mk (setCells x.cells off vc) x).cells=setCells x.cells off vc:=by
 cases x
 case agg cs=>rfl
 all_goals
  simp only[AV.cells,List.length_cons,List.length_nil]at h
  cases vc with
  |nil=>rfl
  |cons u us=>
   simp only[List.length_cons]at h
   obtain rfl:off=0:=by omega
   obtain rfl:us= []:=List.eq_nil_of_length_eq_zero (by omega);simp only[List.all_cons,Bool.and_eq_true]at hl;simp only[mk,setCells,AV.cells,List.set_cons_zero,List.headD_cons];exact leaf_cells hl.1
theorem setCells_in{l:List AV}{sz i off:Nat}{x:AV}{vc:List AV}(h: ∀x,x∈l→x.cells.length=sz)(hx:l[i]?=some x)(hl:vc.all AV.leaf=true)(ho:off+vc.length≤x.cells.length):
  setCells (flat l) (i*sz+off) vc=flat (l.set i (mk (setCells x.cells off vc) x)):=by
 have hm:=mk_cells hl ho
 have hi:=lt_of_getl hx
 have hxs:=h x (List.mem_of_getElem? hx)
 have hle:i*sz+sz≤l.length*sz:=by have:=Nat.mul_le_mul_right sz (show i+1≤l.length from hi);rw[Nat.add_mul]at this;omega
 rw[←setCells_flat h (by rw[hm,setCells_length,hxs]) hi,hm];apply List.ext_getElem?;intro j;rw[setCells_get _ _ _ _ (by rw[flat_length h];omega),setCells_get _ _ _ _ (by rw[flat_length h,setCells_length,hxs];omega),setCells_length,hxs]
 by_cases h1:i*sz≤j∧j<i*sz+sz
 ·rw[if_pos h1,setCells_get _ _ _ _ ho]
  by_cases h2:i*sz+off≤j∧j<i*sz+off+vc.length
  ·rw[if_pos h2,if_pos (by omega)];congr 1;omega
  ·rw[if_neg h2,if_neg (by omega),←flat_get h hx (show j-i*sz<sz by omega)];congr 1;omega
 ·rw[if_neg h1,if_neg (by omega)]
variable {G:Nat→Option (List AV)} {A:Area} {g:View} {w':World}
theorem storeVar_run{P:Program}{t:TypeId}{v:Value}{s:Nat}(hs:size P t= .ok s)(hv:v.cells.size=s){B o:Nat}{e:TypeId}{fz:Nat×Nat}{cs:Array Value}(hb:w.heap[B]?=some (.cells cs e fz))(hl:o+s≤cs.size)(hf:Thawed fz o cs.size)(h1: ∀u∈v.cells.toList,u.oneCell'=true):
  (storeVar t ⟨B,o,none⟩ v).run P w= .ok () {w with heap:=w.heap.setIfInBounds B (.cells (putL cs o v.cells.toList) e fz)}:=by
 have:=storeCells_run (P:=P) (o:=o) v.cells.toList 0 cs w hb (by simp;omega) hf h1;simp only[Nat.add_zero]at this;simp[storeVar,run_size hs,hv,this]
theorem storeA_run{P:Program}{h h':H}{t:TypeId}{p y:AV}(hy:storeA P h t y p= .ok h')(hr:HR G A ρ w (view h)){u v:Value}(hu:CR (Forb A ρ (view h)) ρ w u p)(hv:CR (Forb A ρ (view h)) ρ w v y):
  ∃w',(Instr.storeAt t u v).run P w= .ok () w'∧Ext (Own ρ (view h)) ρ w (Own ρ (view h')) ρ w'∧HR G A ρ w' (view h'):=by
 cases hu with
 | @ptr b B off hb0=>
   simp only[storeA]at hy
   cases hcs:h[b]? with
   |none=>simp [hcs]at hy
   |some blk=>
    cases blk with
    |var cs=>
     simp only[hcs]at hy;obtain⟨s,hs,hy⟩:=R.bind_ok hy;split at hy
     ·rename_i hc
      cases hy;obtain⟨B',k,h1,_,h2⟩:=hr.blk b _ hcs nofun;rw[hb0]at h1;cases h1;obtain⟨_,vs,e,fz,h3,h4,h5⟩:=h2
      have hvc:=hv.cells
      have hsz:v.cells.size=s:=by have:=hvc.1;simp at this;omega
      have hvs:vs.size=cs.length:=by have:=h5.1;simpa using this
      have hrun:=storeVar_run (P:=P) hs hsz h3 (by omega) (fun o h1 h2=>h4 o (Nat.zero_le _) h2) (leaves_one hvc hc.2.2) (o:=off)
      obtain⟨m1,m2⟩:=hr.modify (w':={w with heap:=w.heap.setIfInBounds B (.cells (putL vs off v.cells.toList) e fz)}) hb0 hcs rfl rfl ⟨rfl,rfl,rfl⟩
       (fun cs1 e1 fz1 hb1=>by rw[h3]at hb1;cases hb1;exact⟨_,_,rfl,putL_size ..⟩) (.var (setCells cs off y.cells))
      rw[view_set hcs];refine⟨_,by simp[Instr.storeAt,Instr.sureAddr,hrun],m1,m2 ⟨rfl,putL vs off v.cells.toList,e,fz,?_,by rw[putL_size];exact h4,?_⟩⟩
      ·rw[Array.getElem?_setIfInBounds_self_of_lt (lt_of_get h3)]
      ·exact putL_cr (h5.mono m1.sub m1.keeps) (hvc.mono m1.sub m1.keeps)
     ·cases hy
    |_=>simp [hcs]at hy
 | @eptr b B i sz off o hb0 ho=>
   simp only[storeA]at hy
   cases hcs:h[b]? with
   |none=>simp [hcs]at hy
   |some blk=>
    cases blk with
    |arr sz' l=>
     simp only[hcs]at hy
     cases hx:l[i]? with
     |none=>simp [hx]at hy
     |some x=>
      simp only[hx]at hy;obtain⟨s,hs,hy⟩:=R.bind_ok hy;split at hy
      ·rename_i hc
       cases hy;obtain⟨rfl⟩:=hc.2.2.2;obtain⟨B',k,h1,_,h2⟩:=hr.blk b _ hcs nofun;rw[hb0]at h1;cases h1;obtain⟨_,vs,e,fz,h3,h4,h5,h6⟩:=h2
       have hvc:=hv.cells
       have hsz:v.cells.size=s:=by have:=hvc.1;simp at this;omega
       have hi:=lt_of_getl hx
       have hxs:=h6.1 x (List.mem_of_getElem? hx)
       have hle:i*sz+sz≤l.length*sz:=by have:=Nat.mul_le_mul_right sz (show i+1≤l.length from hi);rw[Nat.add_mul]at this;omega
       have hrun:=storeVar_run (P:=P) hs hsz h3 (by omega) (fun o h1 h2=>h4 o (Nat.zero_le _) h2) (leaves_one hvc hc.2.2.1) (o:=o)
       have hin:=setCells_in h6.1 hx hc.2.2.1 (by omega:off+y.cells.length≤x.cells.length)
       obtain⟨m1,m2⟩:=hr.modify (w':={w with heap:=w.heap.setIfInBounds B (.cells (putL vs o v.cells.toList) e fz)}) hb0 hcs rfl rfl ⟨rfl,rfl,rfl⟩
        (fun cs1 e1 fz1 hb1=>by rw[h3]at hb1;cases hb1;exact⟨_,_,rfl,putL_size ..⟩) (.arr sz (l.set i (mk (setCells x.cells off y.cells) x)))
       rw[view_set hcs];refine⟨_,by simp[Instr.storeAt,Instr.sureAddr,hrun],m1,m2 ⟨rfl,putL vs o v.cells.toList,e,fz,?_,by rw[putL_size];exact h4,by rw[putL_size];simpa using h5,fun z hz=>?_,?_⟩⟩
       ·rw[Array.getElem?_setIfInBounds_self_of_lt (lt_of_get h3)]
       ·rcases mem_set hz with rfl|hz
        ·rw[mk_cells hc.2.2.1 (by omega),setCells_length,hxs]
        ·exact h6.1 z hz
       ·rw[←hin,ho.symm,List.length_set]
        -- the row's head
        have h7:=h6.2.mono m1.sub m1.keeps (ρ':=ρ);have hvc':=hvc.mono m1.sub m1.keeps (ρ':=ρ);refine⟨by rw[setCells_length,flat_length h6.1];simp[putL_size];omega,fun j u z hu hz=>?_⟩;rw[setCells_get _ _ _ _ (by rw[flat_length h6.1];omega)]at hz;rw[List.getElem?_take]at hu;split at hu
        ·rename_i hj
         rw[List.drop_zero,Array.getElem?_toList,putL_get _ _ _ _ (by simp;omega)]at hu;simp only[Array.length_toList,hsz]at hu;rw[hc.1]at hz;split at hz
         ·rename_i hjj
          rw[if_pos hjj]at hu;exact hvc'.2 _ u z hu hz
         ·rename_i hjj
          rw[if_neg hjj]at hu;exact h7.2 j u z (by rw[List.getElem?_take,if_pos hj,List.drop_zero,Array.getElem?_toList];exact hu) hz
        ·cases hu
      ·cases hy
    |_=>simp [hcs]at hy
 |_=>cases hy
end
end Go.Proofs.YthnajefdiljneaaDoor.AM
namespace Go.Proofs.YthnajefdiljneaaDoor.AM
set_option linter.unusedSectionVars false
set_option linter.unusedVariables false
set_option linter.unusedSimpArgs false
section
variable {F:Area} {ρ:Rho} {w:World} {G:Nat→Option (List AV)} {A:Area} {g:View} {w':World}
theorem row_at{cs:Array Value}{o m:Nat}{l:List AV}(h:CRs F ρ w ((cs.toList.drop o).take m) l){B:Nat}{e:TypeId}{fz:Nat×Nat}(hb:w.heap[B]?=some (.cells cs e fz))(hm:m=l.length){P:Program}:
  (loadCells ⟨B,o,none⟩ m).run P w= .ok ((cs.toList.drop o).take m).toArray w:=by subst hm;exact cells_at h hb
theorem firstCells_run{P:Program}{h:H}{x:AV}{l:List AV}(he:elemsA h x= .ok l)(hr:HR G A ρ w g)(hd: ∀b,depOf x=some b→g b=h[b]?){v:Value}(hc:CR (Forb A ρ g) ρ w v x){s:Nat}(hs:szA x s=true):
  (∀y,y∈l→y.cells.length=s)∧(∃b c,v= .slice b l.length c∧l.length≤c)∧ ∀n,n≤l.length→ ∃arr:Array Value,(Builtin.firstCells s n v).run P w= .ok arr w∧CRs (Forb A ρ g) ρ w arr.toList (flat (l.take n)):=by
 obtain⟨h1,h2⟩:=elemsA_run he hr hd hc hs;refine⟨h1,?_,fun n hn=>?_⟩
 ·rcases h2 with⟨rfl,b,rfl⟩|⟨B,o,c,cs,e,fz,rfl,hlc,_,_⟩
  ·exact⟨b,0,rfl,Nat.le_refl _⟩
  ·exact⟨_,_,rfl,hlc⟩
 ·rcases h2 with⟨rfl,b,rfl⟩|⟨B,o,c,cs,e,fz,rfl,hlc,hb,hel⟩
  ·obtain rfl:n=0:=by simpa using hn
   exact⟨#[],by cases b<;>simp [Builtin.firstCells,loadCells,loadCellsFrom],by simp[flat];exact .nil⟩
  ·rcases Nat.eq_zero_or_pos n with rfl|hn0
   ·refine⟨#[],?_,by simp[flat];exact .nil⟩
    simp[Builtin.firstCells,loadCells,loadCellsFrom]
   ·have hel:=(hel (by omega)).cut 0 n
    rw[List.drop_zero,Nat.zero_mul,Nat.add_zero]at hel
    have hln:(l.take n).length=n:=by simp;omega
    have h3:=hel.2
    rw[hln]at h3
    have hfl:n*s=(flat (l.take n)).length:=by rw[flat_length hel.1,hln]
    exact⟨_,by simp only[Builtin.firstCells];exact row_at h3 hb hfl,by simpa using h3⟩
theorem newsA_run{P:Program}{h:H}{sz:Nat}{xt:TypeId}{x:AV}{l:List AV}(hl:newsA P sz xt x h= .ok l)(hr:HR G A ρ w g)(hd: ∀b,depOf x=some b→g b=h[b]?){v:Value}(hc:CR (Forb A ρ g) ρ w v x):
  (∃d,P.underlying xt=some d∧ ∀k,d≠ .int k)∧(Builtin.lenOf v).run P w= .ok l.length w∧(∀y,y∈l→y.cells.length=sz)∧ ∀n,n≤l.length→ ∃arr:Array Value,(Builtin.firstCells sz n v).run P w= .ok arr w∧CRs (Forb A ρ g) ρ w arr.toList (flat (l.take n)):=by
 obtain⟨d,hdd,hl⟩:=R.bind_ok hl;split at hl
 ·split at hl
  ·rename_i hs
   obtain⟨h1,⟨b,c,rfl,_⟩,h3⟩:=firstCells_run (P:=P) hl hr hd hc hs;exact⟨⟨_,under_ok hdd,fun k h=>by cases h⟩,rfl,h1,h3⟩
  ·cases hl
 ·cases x with
  |str s=>
   obtain rfl:=toV_eq (x:= .string s) (by rfl) hc;simp only at hl
   by_cases hs:sz=1
   ·rw[if_pos hs]at hl
    cases hl;subst hs
    have hlen:(ofBytes s).length=s.size:=by simp[ofBytes]
    refine⟨⟨_,under_ok hdd,fun k h=>by cases h⟩,by rw[hlen];rfl,fun y hy=>?_,fun n hn=>?_⟩
    ·obtain⟨b,_,rfl⟩:=List.mem_map.1 hy;rfl
    ·refine⟨_,rfl,?_⟩
     have hlf: ∀y,y∈(ofBytes s).take n→y.leaf=true:=fun y hy=>by obtain⟨b,_,rfl⟩:=List.mem_map.1 (List.mem_of_mem_take hy);rfl
     rw[flat_leaf hlf]
     have hext:(s.extract 0 n).data.toList=s.data.toList.take n:=by simp[ByteArray.data_extract]
     refine⟨?_,fun j v y hv hy=>?_⟩
     ·rw[Array.toList_map,List.length_map,hext];simp[ofBytes]
     ·rw[Array.toList_map,hext,List.getElem?_map]at hv
      simp only[ofBytes,←List.map_take,List.getElem?_map]at hy
      cases hq:(s.data.toList.take n)[j]? with
      |none=>rw [hq]at hv;simp at hv
      |some b=>rw [hq]at hv hy;simp at hv hy;subst hv;subst hy;exact .int _ _
   ·rw[if_neg hs]at hl;cases hl
  |_=>cases hl
 ·cases hl
def News(P:Program)(w:World)(i:TypeInfo)(zv:Value)(xt:TypeId)(vx:Value)(m:Nat)(arr:Array Value):Prop:=
 ((∃d,P.underlying xt=some d∧ ∀k,d≠ .int k)∧(Builtin.lenOf vx).run P w= .ok m w∧(Builtin.firstCells i.size m vx).run P w= .ok arr w)∨
 ∃k kk l,P.underlying xt=some (.int k)∧vx= .int kk l∧IntKind.i64.wrap l=(m:Int)∧(m:Int)*i.bytes≤2 ^ 48∧arr=if m*i.size=0 then #[]else Builtin.zeroCells zv.cells m
theorem newsI_run{P:Program}{h:H}{i:TypeInfo}{z:AV}{xt:TypeId}{x:AV}{l:List AV}(hl:newsI P i z xt x h= .ok l)(hr:HR G A ρ w g)(hd: ∀b,depOf x=some b→g b=h[b]?){v:Value}(hc:CR (Forb A ρ g) ρ w v x)
  {zv:Value} (hzo:ofV zv=some z) (hzs:zv.cells.size=i.size) (hzl:z.cells.length=i.size):
  (∀y,y∈l→y.cells.length=i.size)∧ ∃arr,News P w i zv xt v l.length arr∧CRs (Forb A ρ g) ρ w arr.toList (flat l):=by
 unfold newsI at hl;split at hl
 ·rename_i k hk
  unfold zerosA at hl
  cases x with
  |int kk n=>
   simp only at hl;split at hl
   ·rename_i hn
    cases hl;obtain rfl:=toV_eq (x:= .int kk n) (by rfl) hc;have hzz:CRs (Forb A ρ g) ρ w zv.cells.toList z.cells:=(ofV_cr hzo).cells;refine⟨replicate_sz hzl,_, .inr ⟨k,kk,n,hk,rfl,?_,?_,rfl⟩,?_⟩
    ·rw[List.length_replicate]
     simp only[IntKind.wrap,IntKind.bits,IntKind.signed,Bool.true_and,decide_eq_true_eq,Nat.reduceSub,Int.reducePow,ge_iff_le]
     split<;>omega
    ·rw[List.length_replicate];have:=hn.2.2;have h0:=hn.1
     rw[Int.toNat_of_nonneg h0];omega
    ·rw[List.length_replicate]
     split
     ·rename_i h0
      have hfl:flat (List.replicate n.toNat z)= []:=List.eq_nil_of_length_eq_zero (by rw[flat_length (replicate_sz hzl),List.length_replicate];exact h0);rw[hfl];exact .nil
     ·exact zeros_cr (sz:=zv.cells.size) hzz (by rw[hzs];exact hzl)
   ·cases hl
  |_=>cases hl
 ·obtain⟨h1,h2,h3,h4⟩:=newsA_run (P:=P) hl hr hd hc
  obtain⟨arr,k1,k2⟩:=h4 l.length (Nat.le_refl _);rw[List.take_length]at k2;exact⟨h3,arr, .inl ⟨h1,h2,k1⟩,k2⟩
theorem nextcap_le{need c:Nat}(h:c<need):Builtin.nextslicecap need c≤need+need / 4+512:=by
 have grow: ∀r q,q≤need+need / 4+512→256≤q→Builtin.growBy need r q≤need+need / 4+512:=by
  intro r
  induction r with
  |zero=>intro q h1 h2;exact h1
  |succ r ih=>
   intro q h1 h2;simp only[Builtin.growBy];split
   ·exact h1
   ·exact ih _ (by omega) (by omega)
 unfold Builtin.nextslicecap;split
 ·omega
 ·split
  ·omega
  ·exact grow 4 c (by omega) (by omega)
theorem not_int{d:TypeDesc}(hd: ∀k,d≠ .int k):(match d with| .int k=>true|_=>false)=false:=by cases d<;>first|rfl|exact absurd rfl (hd _)
section app
variable {P:Program} {st xt e:TypeId} {i:TypeInfo} {z:AV} {zv:Value} {d:TypeDesc} {base:Option Addr} {n c m:Nat} {vx:Value} {ty:TypeId}
theorem append_fits(hst:P.underlying st=some (.slice e))(hi:P.info? e=some i)(hz:i.zero=some zv){arr:Array Value}(hN:News P w i zv xt vx m arr)(hfit:n+m≤c):
  (Builtin.append_ #[st,xt] ty #[.slice base n c,vx]).run P w=((match base with|some a=>storeCells (a.add (n*i.size)) arr.toList|none=>pure ():Sem Unit).run P w).andThen fun _ w'=> .ok (.slice base (n+m) c) w':=by
 have e1:(underlying st).run P w= .ok (.slice e) w:=run_underlying hst w
 have e3:(sizeOf e).run P w= .ok i.size w:=by simp[sizeOf,typeInfo,hi]
 rcases hN with⟨⟨d,hxt,hd⟩,hlen,hnew⟩|⟨k,kk,l,hxt,rfl,hw,hb,rfl⟩
 ·have e2:(underlying xt).run P w= .ok d w:=run_underlying hxt w
  have hm:=not_int hd
  unfold Builtin.append_;simp only[List.getElem?_toArray,List.getElem?_cons_zero,List.getElem?_cons_succ];simp only[Sem.run_bind,e1,e3,Result.andThen_ok,e2,hm,hlen,Bool.false_eq_true,if_false,Bool.not_false,if_true,if_pos hfit,hnew,Sem.run_pure]
  cases base<;>simp
 ·have e2:(underlying xt).run P w= .ok (.int k) w:=run_underlying hxt w
  have e4: ∀w,(typeInfo e).run P w= .ok i w:=fun w=>by simp[typeInfo,hi]
  have e5: ∀w,(zeroValue e).run P w= .ok zv w:=fun w=>by simp[zeroValue,typeInfo,hi,hz]
  have e6:(asInt (.int kk l)).run P w= .ok l w:=rfl
  have h1: ¬((m:Int)<0):=by omega
  have h2: ¬((m:Int)*i.bytes>2 ^ 48):=by omega
  unfold Builtin.append_;simp only[List.getElem?_toArray,List.getElem?_cons_zero,List.getElem?_cons_succ];simp only[Sem.run_bind,e1,e3,Result.andThen_ok,e2,if_true,e6,hw,h1,if_false,e4,h2,Sem.run_pure,Int.toNat_natCast,if_pos hfit,Bool.not_true,Bool.false_eq_true]
  by_cases h0:m*i.size=0
  ·simp only[h0,if_true,Sem.run_pure,Result.andThen_ok]
   cases base<;>simp
  ·simp only[h0,if_false,Sem.run_bind,e5,Result.andThen_ok,Sem.run_pure]
   cases base<;>simp
theorem append_grows(hst:P.underlying st=some (.slice e))(hi:P.info? e=some i){arr old:Array Value}
  (hz:i.zero=some zv) (hzs:zv.cells.size=i.size) (hb:0<i.bytes∧i.bytes≤1000000) (hroom:(n+m)*i.bytes≤200000000000000) (hgrow:c<n+m) {w1:World} (hw1:w1={w with drawn:=w.drawn+1})
  {arr0:Array Value} (hN0:News P w i zv xt vx m arr0) (hold:(Builtin.firstCells i.size n (.slice base n c)).run P w1= .ok old w1) (hN:News P w1 i zv xt vx m arr):
  ∃cap,∃rest:Array Value,n+m≤cap∧rest.size=(cap-(n+m))*i.size∧
  (Builtin.append_ #[st,xt] ty #[.slice base n c,vx]).run P w= .ok (.slice (some ⟨w.heap.size,0,none⟩) (n+m) cap) {w1 with heap:=w1.heap.push (.cells (old++arr++rest) e)}:=by
 have e1:(underlying st).run P w= .ok (.slice e) w:=run_underlying hst w
 have e3:(sizeOf e).run P w= .ok i.size w:=by simp[sizeOf,typeInfo,hi]
 have e4: ∀w,(typeInfo e).run P w= .ok i w:=fun w=>by simp[typeInfo,hi]
 have e5: ∀w,(zeroValue e).run P w= .ok zv w:=fun w=>by simp[zeroValue,typeInfo,hi,hz]
 have hnc:=nextcap_le hgrow
 have hlim: ¬(Builtin.nextslicecap (n+m) c*i.bytes>2 ^ 48):=by
  have h1:=Nat.mul_le_mul_right i.bytes hnc
  have h2:((n+m)+(n+m) / 4+512)*i.bytes≤(n+m)*i.bytes+(n+m)*i.bytes / 4+512*i.bytes:=by
   rw[Nat.add_mul,Nat.add_mul]
   have:(n+m) / 4*i.bytes≤(n+m)*i.bytes / 4:=by
    rw[Nat.le_div_iff_mul_le (by decide),Nat.mul_right_comm];exact Nat.mul_le_mul_right _ (Nat.div_mul_le_self _ _)
   omega
  have h3:=hb.2
  omega
 have hmul:n+m≤(n+m)*i.bytes:=Nat.le_mul_of_pos_right _ hb.1
 have hmax: ¬(((n+m:Nat):Int)>IntKind.i64.max):=by
  simp only[IntKind.max,IntKind.signed,IntKind.bits,if_true,Nat.reduceSub,Int.reducePow];omega
 obtain⟨cap,hcap⟩: ∃cap,cap=(Question.appendCap (n+m) c e).cut (w.tape w.drawn (.appendCap (n+m) c e)):=⟨_,rfl⟩
 have hcle:n+m≤cap:=by rw[hcap];simp only[Question.cut];omega
 have hfc:(Question.appendCap (n+m) c e).forced=false:=rfl;refine⟨cap,Builtin.zeroCells zv.cells (cap-(n+m)),hcle,by simp[Builtin.zeroCells,hzs],?_⟩
 have hnf: ¬(n+m≤c):=by omega
 have hbz: ¬(i.bytes=0):=by omega
 rcases hN0 with⟨⟨d,hxt,hd⟩,hlen,_⟩|⟨k,kk,l,hxt,rfl,hw,hb8,rfl⟩
 ·rcases hN with⟨_,_,hnew⟩|⟨k,kk,l,hxt',_⟩
  ·have e2:(underlying xt).run P w= .ok d w:=run_underlying hxt w
   have hm:=not_int hd
   unfold Builtin.append_;simp only[List.getElem?_toArray,List.getElem?_cons_zero,List.getElem?_cons_succ];simp only[Sem.run_bind,e1,e2,e3,Result.andThen_ok,hm,hlen,Bool.false_eq_true,if_false,Bool.not_false,if_true,Sem.run_pure];simp only[hnf,if_false,Sem.run_bind,Sem.run_ite,e4,Result.andThen_ok];simp only[hbz,or_self,and_false,if_false,hlim,Sem.run_bind,run_choose,hfc,Bool.false_eq_true,←hcap,Result.andThen_ok,e4,run_askRoom];rw[←hw1];simp only[hold,hnew,e5,Result.andThen_ok,newRow,Sem.run_bind,run_newObj,Sem.run_pure];rw[hw1]
  ·rw[hxt]at hxt';cases hxt';exact absurd rfl (hd k)
 ·have harr:arr=if m*i.size=0 then #[]else Builtin.zeroCells zv.cells m:=by
   rcases hN with⟨⟨d,hxt',hd⟩,_⟩|⟨_,_,_,_,_,_,_,h⟩
   ·rw[hxt]at hxt';cases hxt';exact absurd rfl (hd k)
   ·exact h
  have e2:(underlying xt).run P w= .ok (.int k) w:=run_underlying hxt w;have e6:(asInt (.int kk l)).run P w= .ok l w:=rfl
  have h1: ¬((m:Int)<0):=by omega
  have h2: ¬((m:Int)*i.bytes>2 ^ 48):=by omega
  unfold Builtin.append_;simp only[List.getElem?_toArray,List.getElem?_cons_zero,List.getElem?_cons_succ];simp only[Sem.run_bind,e1,e3,Result.andThen_ok,e2,if_true,e6,hw,h1,if_false,e4,h2,Sem.run_pure,Int.toNat_natCast,Bool.not_true,Bool.false_eq_true];simp only[hnf,if_false,Sem.run_bind,Sem.run_ite,e4,Result.andThen_ok];simp only[hmax,true_or,false_and,if_false,hlim,Sem.run_bind,run_choose,hfc,Bool.false_eq_true,←hcap,Result.andThen_ok,e4,run_askRoom];rw[←hw1]
  by_cases h0:m*i.size=0
  ·rw[if_pos h0]at harr
   subst harr;simp only[hold,h0,if_true,e5,Result.andThen_ok,newRow,Sem.run_bind,run_newObj,Sem.run_pure];rw[hw1]
  ·rw[if_neg h0]at harr
   subst harr;simp only[hold,h0,if_false,e5,Result.andThen_ok,newRow,Sem.run_bind,run_newObj,Sem.run_pure];rw[hw1]
end app
end
end Go.Proofs.YthnajefdiljneaaDoor.AM
namespace Go.Proofs.YthnajefdiljneaaDoor.AM
set_option linter.unusedSectionVars false
set_option linter.unusedVariables false
set_option linter.unusedSimpArgs false
section
variable {F:Area} {ρ:Rho} {w:World} {G:Nat→Option (List AV)} {A:Area} {g:View} {w':World}
theorem HR.heap(hr:HR G A ρ w g)(hw:w'.heap=w.heap)(hst:SameS w w'):HR G A ρ w' g∧Ext (Own ρ g) ρ w (Own ρ g) ρ w':=by
 obtain⟨h1,h2⟩:=hr.upd (ρ':=ρ) (w':=w') (g':=g) w.heap.size hst (fun b p hb=>hb) (fun B hB hne=>by rw[hw]) (fun cs e fz hb=>by have:=lt_of_get hb;omega) (fun h=>by omega) (by rw[hw];exact Nat.le_refl _) (fun B off h=> .inl h) (fun b B k h=> .inl h);exact⟨h2 hr.dom (fun b blk hb=> .inl ⟨hb,fun hal B k hB=>Nat.ne_of_lt (hr.lt hB)⟩) hr.sep (fun b h=>⟨h,rfl⟩),h1⟩
theorem grows{P:Program}{st xt e:TypeId}{i:TypeInfo}{zv:Value}{base:Option Addr}{n c:Nat}{vx:Value}{ty:TypeId}{h:H}{x:AV}{new olds:List AV}
  (hr:HR G A ρ w (view h)) (hst:P.underlying st=some (.slice e)) (hi:P.info? e=some i) (hz:i.zero=some zv) (hzs:zv.cells.size=i.size) (hb:0<i.bytes∧i.bytes≤1000000)
  {z:AV} (hzo:ofV zv=some z) (hzl:z.cells.length=i.size) (hn:newsI P i z xt x h= .ok new) (hvx:CR (Forb A ρ (view h)) ρ w vx x) (hroom:(n+new.length)*i.bytes≤200000000000000) (hgrow:c<n+new.length)
  (hol:olds.length=n) (hos: ∀y,y∈olds→y.cells.length=i.size) (hold: ∀w1,w1.heap=w.heap→SameS w w1→ ∃arr:Array Value,(Builtin.firstCells i.size n (.slice base n c)).run P w1= .ok arr w1∧CRs (Forb A ρ (view h)) ρ w arr.toList (flat olds)):
  ∃row cap w2,(Builtin.append_ #[st,xt] ty #[.slice base n c,vx]).run P w= .ok (.slice (some ⟨w.heap.size,0,none⟩) (olds++new).length cap) w2∧w2.heap=w.heap.push (.cells row e)∧SameS w w2∧
   Elems (Forb A ρ (view h)) ρ w row 0 i.size (olds++new)∧(olds++new).length≤cap∧cap*i.size≤row.size:=by
 obtain⟨hns,arr0,hN0,_⟩:=newsI_run hn hr (fun _ _=>rfl) hvx hzo hzs hzl;have hw1:({w with drawn:=w.drawn+1}:World).heap=w.heap:=rfl;obtain⟨hr1,hx1⟩:=hr.heap hw1 ⟨rfl,rfl,rfl⟩;obtain⟨_,arr,ha1,ha2⟩:=newsI_run hn hr1 (fun _ _=>rfl) (hvx.ext hx1) hzo hzs hzl;obtain⟨old,ho1,ho2⟩:=hold _ hw1 ⟨rfl,rfl,rfl⟩;obtain⟨cap,rest,hc1,hc2,hrun⟩:=append_grows (ty:=ty) hst hi hz hzs hb hroom hgrow rfl hN0 ho1 ha1
 have ha2':CRs (Forb A ρ (view h)) ρ w arr.toList (flat new):=by
  have hx2:=(hr1.heap (w':=w) rfl ⟨rfl,rfl,rfl⟩).2;exact ha2.ext hx2
 have hall: ∀y,y∈olds++new→y.cells.length=i.size:=fun y hy=>by
  rcases List.mem_append.1 hy with h|h
  ·exact hos y h
  ·exact hns y h
 have hbase:CRs (Forb A ρ (view h)) ρ w (old++arr).toList (flat (olds++new)):=by
  rw[flat_append,Array.toList_append];exact ho2.append ha2'
 have hsz:(old++arr).size=(olds++new).length*i.size:=by
  have:=hbase.1;rw[flat_length hall]at this
  simpa using this
 refine⟨old++arr++rest,cap,{w with drawn:=w.drawn+1,heap:=w.heap.push (.cells (old++arr++rest) e)},?_,rfl,⟨rfl,rfl,rfl⟩,⟨hall,?_⟩,by simpa [hol]using hc1,?_⟩
 ·rw[hrun,List.length_append,hol]
 ·rw[List.drop_zero,Array.toList_append,List.take_append_of_le_length (by simpa using Nat.le_of_eq hsz.symm),List.take_of_length_le (by simpa using Nat.le_of_eq hsz)]
  exact hbase
 ·have h1:(n+new.length)*i.size+(cap-(n+new.length))*i.size=cap*i.size:=by rw[←Nat.add_mul];congr 1;omega
  rw[Array.size_append,hsz,hc2,List.length_append,hol];omega
theorem isEmpty_nil{l:List AV}(h:l.isEmpty=true):l= []:=by cases l<;>simp_all
theorem isEmpty_pos{l:List AV}(h: ¬l.isEmpty=true):0<l.length:=by cases l<;>simp_all
theorem crs_putL{cs:Array Value}{o sz m:Nat}{old new:List AV}{arr:Array Value}(he:Elems F ρ w cs o sz old)(hs: ∀y,y∈new→y.cells.length=sz)(ha:CRs F ρ w arr.toList (flat new))(hm:(old++new).length*sz+o≤cs.size):
  Elems F ρ w (putL cs (o+old.length*sz) arr.toList) o sz (old++new):=by
 have harr:arr.toList.length=new.length*sz:=by rw[ha.1,flat_length hs]
 have hml:(old++new).length*sz=old.length*sz+new.length*sz:=by rw[List.length_append,Nat.add_mul]
 refine⟨fun y hy=>?_,?_⟩
 ·rcases List.mem_append.1 hy with h|h
  ·exact he.1 y h
  ·exact hs y h
 ·refine⟨by simp only[List.length_append,List.length_take,List.length_drop,Array.length_toList,putL_size,flat_length he.1,flat_length hs,flat_append]at hml hm ⊢;omega,fun j u z hu hz=>?_⟩
  rw[List.getElem?_take]at hu;split at hu
  ·rename_i hj
   rw[List.getElem?_drop,Array.getElem?_toList,putL_get _ _ _ _ (by omega)]at hu;rw[flat_append]at hz
   by_cases h1:j<old.length*sz
   ·rw[if_neg (by omega)]at hu
    rw[List.getElem?_append_left (by rw[flat_length he.1];exact h1)]at hz;exact he.2.2 j u z (by rw[List.getElem?_take,if_pos h1,List.getElem?_drop,Array.getElem?_toList];exact hu) hz
   ·rw[if_pos (by omega)]at hu
    rw[List.getElem?_append_right (by rw[flat_length he.1];omega),flat_length he.1]at hz;exact ha.2 _ u z (by rw[show o+j-(o+old.length*sz)=j-old.length*sz by omega]at hu;exact hu) hz
  ·cases hu
variable {E:Env}
theorem appendA_run{f:FuncId}{dst:Option Nat}{st xt:TypeId}{s x y:AV}{h h':H}(ha:appendA E f dst st xt s x h= .ok (y,h'))(hr:HR E.G A ρ w (view h)){vs vx:Value}(hs:CR (Forb A ρ (view h)) ρ w vs s)(hx:CR (Forb A ρ (view h)) ρ w vx x)(ty:TypeId):
  ∃v w' ρ',(Builtin.append_ #[st,xt] ty #[vs,vx]).run E.P w= .ok v w'∧Ext (Own ρ (view h)) ρ w (Own ρ' (view h')) ρ' w'∧HR E.G A ρ' w' (view h')∧CR (Forb A ρ' (view h')) ρ' w' v y:=by
 obtain⟨d,hd,ha⟩:=R.bind_ok ha
 have hst:=under_ok hd
 clear hd;split at ha
 case h_2=>cases ha
 rename_i e;obtain⟨i,hi,ha1⟩:=R.bind_ok ha;clear ha;obtain⟨z,hz,ha2⟩:=R.bind_ok ha1;clear ha1;obtain⟨new,hnew,ha1⟩:=R.bind_ok ha2;clear ha2;obtain⟨n,hn,ha⟩:=R.bind_ok ha1;clear ha1
 by_cases hcond:szA s i.size=true∧(n+new.length)*i.bytes≤200000000000000∧n+new.length≤200000000000000∧0<i.bytes∧i.bytes≤1000000∧z.cells.length=i.size∧(new.all fun y=>y.cells.all AV.leaf)=true
 case neg=>rw [if_neg hcond]at ha;cases ha
 rw[if_pos hcond]at ha;obtain⟨i',zv,hi',hzv,hzo⟩:=zero_info hz;rw[info_ok hi]at hi';cases hi'
 have hii:=info_ok hi
 have hzs:zv.cells.size=i.size:=by
  have:=(ofV_cr (F:=Forb A ρ (view h)) (ρ:=ρ) (w:=w) hzo).cells.1;simp at this;omega
 obtain⟨hsz0,hroom,_,hby0,hby1,hzl,hleaf⟩:=hcond
 have hbytes:=And.intro hby0 hby1
 have hnl:(flat new).all AV.leaf=true:=by
  rw[List.all_eq_true]at hleaf ⊢
  intro y hy;obtain⟨x,hx,hyx⟩:=List.mem_flatMap.1 hy;exact List.all_eq_true.1 (hleaf x hx) y hyx
 obtain⟨hns,arr,hN,harrs⟩:=newsI_run hnew hr (fun _ _=>rfl) hx hzo hzs hzl
 have hid:=view_length h
 have G1:=fun(base:Option Addr) (c:Nat) (olds:List AV)=>grows (base:=base) (c:=c) (n:=n) (ty:=ty) (olds:=olds) hr hst hii hzv hzs hbytes hzo hzl hnew hx hroom
 cases hs with
 |nils=>
  cases hn;simp only at ha;split at ha
  ·rename_i he
   have:=isEmpty_nil he;subst this;cases ha
   have h2:=harrs
   refine⟨_,w,ρ,?_,Ext.refl _ _ _,hr, .nils⟩;rw[append_fits (m:=0) hst hii hzv hN (Nat.le_refl _)];rfl
  ·rename_i he
   cases ha
   have hpos:=isEmpty_pos he
   obtain⟨row,cap,w2,h1,h2,hs2,h3,h4,h5⟩:=G1 none 0 [] (by omega) rfl (fun y hy=>by simp at hy) (fun w1 _ _=>⟨#[],rfl,by simp[flat];exact .nil⟩);obtain⟨k,q1,q2,q3⟩:=newSl_ok E f dst hr (hr.dom _ hid) h2 hs2 (thawed0 _) h3 h4 h5;rw[List.nil_append]at q1 q2 q3 h1;rw[view_append];exact⟨_,w2,_,h1,q1,q2,q3⟩
 | @lst0 base sz tl ht=>
   cases hn
   cases tl with
   |open_=>cases ha
   |own t=>exact absurd rfl (ht t)
   |clip=>
    simp only at ha;split at ha
    ·rename_i he
     have:=isEmpty_nil he;subst this;cases ha
     have h2:=harrs
     have harr:arr.toList= []:=by have:=h2.1;simp[flat]at this;simpa using this
     refine⟨.slice base 0 0,w,ρ,?_,Ext.refl _ _ _,hr, .lst0 ht⟩;rw[append_fits (m:=0) hst hii hzv hN (Nat.le_refl _)]
     cases base<;>simp [harr,storeCells]
    ·rename_i he
     cases ha
     have hpos:=isEmpty_pos he
     have hss:sz=i.size:=by simpa [szA]using hsz0
     subst hss;obtain⟨row,cap,w2,h1,h2,hs2,h3,h4,h5⟩:=G1 base 0 [] (by simpa using hpos) rfl (fun y hy=>by simp at hy) (fun w1 _ _=>⟨#[],by cases base<;>simp [Builtin.firstCells,loadCells,loadCellsFrom],by simp[flat];exact .nil⟩);obtain⟨k,q1,q2,q3⟩:=newSl_ok E f dst hr (hr.dom _ hid) h2 hs2 (thawed0 _) h3 h4 h5;rw[view_append];exact⟨_,w2,_,h1,q1,q2,q3⟩
 | @lst B o n' c sz cs e' fz l tl hb hn' hsz hF us g1 g2 hl hr' hc ht=>
   have hcr:CR (Forb A ρ (view h)) ρ w (.slice (some ⟨B,o,none⟩) n' c) (.lst sz l tl):= .lst hb hn' hsz hF us g1 g2 hl hr' hc ht;obtain⟨B',o',c',cs',e'',fz',heq,hb',_,hel,_⟩:=CR.lst_parts hb hn' hsz hF us g1 g2 hl hr' hc ht;cases heq;rw[hb]at hb';cases hb';cases hn
   have hss:sz=i.size:=by simpa [szA]using hsz0
   subst hss
   have hold: ∀w1,w1.heap=w.heap→SameS w w1→ ∃arr:Array Value,(Builtin.firstCells i.size l.length (.slice (some ⟨B,o,none⟩) l.length c)).run E.P w1= .ok arr w1∧CRs (Forb A ρ (view h)) ρ w arr.toList (flat l):=by
    intro w1 hw1 hs1;obtain⟨hr1,hx1⟩:=hr.heap hw1 hs1;obtain⟨_,_,hf⟩:=firstCells_run (P:=E.P) (h:=h) (x:= .lst i.size l tl) rfl hr1 (fun _ _=>rfl) (hcr.ext hx1) (s:=i.size) (by simp[szA]);obtain⟨arr,f1,f2⟩:=hf l.length (Nat.le_refl _);rw[List.take_length]at f2;exact⟨arr,f1,f2.ext ((hr1.heap (w':=w) hw1.symm ⟨hs1.1.symm,hs1.2.1.symm,hs1.2.2.symm⟩).2)⟩
   cases tl with
   |open_=>cases ha
   |clip=>
    have hcl:=hc rfl
    subst hcl;simp only at ha;split at ha
    ·rename_i he
     have:=isEmpty_nil he;subst this;cases ha
     have h2:=harrs
     have harr:arr.toList= []:=by have:=h2.1;simp[flat]at this;simpa using this
     refine⟨_,w,ρ,?_,Ext.refl _ _ _,hr,hcr⟩;rw[append_fits (m:=0) hst hii hzv hN (by simp)];simp[harr,storeCells]
    ·rename_i he
     cases ha
     have hpos:=isEmpty_pos he
     obtain⟨row,cap,w2,h1,h2,hs2,h3,h4,h5⟩:=G1 _ _ l (by omega) rfl hsz hold;obtain⟨k,q1,q2,q3⟩:=newSl_ok E f dst hr (hr.dom _ hid) h2 hs2 (thawed0 _) h3 h4 h5;rw[view_append];exact⟨_,w2,_,h1,q1,q2,q3⟩
   |own t=>
    simp only at ha
    cases htt:h[t]? with
    |none=>simp [htt]at ha
    |some tb=>
     cases tb with
     |tail=>
      simp only[htt,R.ok.injEq,Prod.mk.injEq]at ha;obtain⟨rfl,rfl⟩:=ha;have htv:view h t=some .tail:=htt;obtain⟨B1,k1,hρt,_,cs1,e1,fz1,hb1,hth1⟩:=hr.blk t _ htv nofun
      have hview:view (h.set t .dead++ [.tail])=setG (setG (view h) t .dead) h.length .tail:=by
       rw[view_append,view_set htt,List.length_set]
      rw[hview]
      by_cases hfit:l.length+new.length≤c
      ·have h2:=harrs
       have hrun:=append_fits (ty:=ty) (base:=some ⟨B,o,none⟩) (n:=l.length) hst hii hzv hN hfit
       rcases Nat.eq_zero_or_pos new.length with h0|h0
       ·obtain rfl:=List.eq_nil_of_length_eq_zero h0
        have harr:arr.toList= []:=by have:=h2.1;simp[flat]at this;simpa using this
        obtain⟨m1,m2⟩:=hr.onto (w':=w) hρt htv rfl hid (Nat.le_refl k1) hb1 (set_same hb1).symm (SameS.refl w) rfl (fun _ _=>rfl) .tail;refine⟨.slice (some ⟨B,o,none⟩) l.length c,w,_,?_,m1,m2 ⟨cs1,e1,fz1,hb1,hth1⟩,?_⟩
        ·rw[hrun];simp[harr,storeCells]
        ·rw[List.append_nil]
         obtain⟨B2,o2,c2,cs2,e2,fz2,heq2,hb2,hF2,hel2,hl2,hr2,hc2,ht2⟩:=(hcr.ext m1).lst_inv (.inr ⟨_,rfl⟩);cases heq2;refine .lst_of hb2 hF2 hel2 hl2 hr2 (fun h=>by cases h) (fun t' ht' hlt=>?_);cases ht';have:=ht t rfl hlt;rw[hρt]at this;simp[setR,this]
       ·have hρ2:=ht t rfl (by omega)
        rw[hρt]at hρ2;cases hρ2;rw[hb]at hb1;cases hb1
        have hroom2:o+(l++new).length*i.size≤cs.size:=by
         have:=Nat.mul_le_mul_right i.size hfit;rw[List.length_append];omega
        have harr:arr.toList.length=new.length*i.size:=by rw[h2.1,flat_length hns]
        have hml:(l++new).length*i.size=l.length*i.size+new.length*i.size:=by rw[List.length_append,Nat.add_mul]
        have hone: ∀v∈arr.toList,v.oneCell'=true:=leaves_one h2 hnl;have hstore:=storeCells_run (P:=E.P) (B:=B) (o:=o+l.length*i.size) arr.toList 0 cs w hb (by omega) hth1 hone;rw[Nat.add_zero]at hstore
        obtain⟨m1,m2⟩:=hr.onto (w':={w with heap:=w.heap.setIfInBounds B (.cells (putL cs (o+l.length*i.size) arr.toList) e' fz)}) (k:=o+(l++new).length*i.size) hρt htv rfl hid (by omega) hb rfl ⟨rfl,rfl,rfl⟩ (putL_size ..)
         (fun off hoff=>by rw[putL_get _ _ _ _ (by omega),if_neg (by omega)]) .tail
        have hB:({w with heap:=w.heap.setIfInBounds B (.cells (putL cs (o+l.length*i.size) arr.toList) e' fz)}:World).heap[B]?=some (.cells (putL cs (o+l.length*i.size) arr.toList) e' fz):=Array.getElem?_setIfInBounds_self_of_lt (lt_of_get hb);refine⟨.slice (some ⟨B,o,none⟩) (l.length+new.length) c,_,_,?_,m1,m2 ⟨_,_,_,hB,fun off p1 p2=>hth1 off (by omega) (by rw[putL_size]at p2;exact p2)⟩,?_⟩
        ·rw[hrun]
         simp only[add0,hstore,Result.andThen_ok]
        ·rw[←List.length_append]
         refine .lst_of hB (fun j hj=>?_) ?_ (by rw[List.length_append];exact hfit) (by rw[putL_size];exact hr') (fun h=>by cases h) (fun t' ht' hlt=>by cases ht';simp[setR])
         ·rintro(⟨b,k,yb,hb',hyb,hal,hk⟩|hA)
          ·simp only[setR,setG]at hb' hyb
           by_cases e1:b=h.length
           ·rw[if_pos e1]at hb';cases hb';omega
           ·rw[if_neg e1]at hb' hyb
            split at hyb
            ·cases hyb;cases hal
            ·rename_i hbt
             exact hbt (hr.sep b t B k _ yb .tail hb' hρt hyb htv hal rfl)
          ·by_cases hjl:j<l.length*i.size
           ·exact hF j hjl (.inr hA)
           ·exact(hr.avo _ _ hA).2 ⟨t,_, .tail,hρt,htv,rfl,by omega⟩
         ·exact crs_putL (m:=0) (hel.mono m1.sub m1.keeps) hns (h2.ext m1) (by omega)
      ·obtain⟨row,cap,w2,h1,h2,hs2,h3,h4,h5⟩:=G1 (some ⟨B,o,none⟩) c l (by omega) rfl hsz hold
       obtain⟨x1,hrk⟩:=hr.kill htv
       have hidk:setG (view h) t .dead h.length=none:=by
        have:h.length≠t:=fun e=>by rw[←e]at htt;simp at htt
        simp[setG,this,hid]
       obtain⟨m1,m2⟩:=hrk.alloc (w':=w2) (hrk.dom _ hidk) h2 hs2 ((l++new).length*i.size) .tail
       have hb2:w2.heap[w.heap.size]?=some (.cells row e (0,0)):=by rw[h2];simp
       refine⟨_,w2,_,h1,x1.trans m1,m2 ⟨row,e,(0,0),hb2,fun off p1 p2=>thawed0 _ off (Nat.zero_le _) p2⟩,?_⟩;refine .lst_of hb2 (fun j hj=>?_) ((h3.mono x1.sub x1.keeps).mono m1.sub m1.keeps) h4 (by rw[Nat.zero_add];exact h5) (fun h=>by cases h) (fun t' ht' hlt=>by cases ht';simp[setR]);rintro(⟨b,k,yb,hb',hyb,hal,hk⟩|hA)
       ·simp only[setR]at hb'
        split at hb'
        ·cases hb';omega
        ·have:=hr.lt hb';omega
       ·have:=(hr.avo _ _ hA).1;omega
     |_=>simp [htt]at ha
 | @sl b B o off len sz c clip cs e' fz hb0 hb hr' hl hc ho=>
   have hcr:CR (Forb A ρ (view h)) ρ w (.slice (some ⟨B,o,none⟩) len c) (.sl b off len sz clip):= .sl hb0 hb hr' hl hc ho;cases hn
   have hss:sz=i.size:=by simpa [szA]using hsz0
   subst hss;simp only at ha;obtain⟨old,hold0,ha1⟩:=R.bind_ok ha;clear ha;obtain⟨hos,⟨b',c',heq,hlc⟩,hf0⟩:=firstCells_run (P:=E.P) hold0 hr (fun _ _=>rfl) hcr (s:=i.size) (by simp[szA])
   have holen:old.length=n:=by cases heq;rfl
   have hold: ∀w1,w1.heap=w.heap→SameS w w1→ ∃arr:Array Value,(Builtin.firstCells i.size n (.slice (some ⟨B,o,none⟩) n c)).run E.P w1= .ok arr w1∧CRs (Forb A ρ (view h)) ρ w arr.toList (flat old):=by
    intro w1 hw1 hs1;obtain⟨hr1,hx1⟩:=hr.heap hw1 hs1;obtain⟨_,_,hf⟩:=firstCells_run (P:=E.P) hold0 hr1 (fun _ _=>rfl) (hcr.ext hx1) (s:=i.size) (by simp[szA]);obtain⟨arr,f1,f2⟩:=hf n (by omega);rw[List.take_of_length_le (by omega)]at f2;exact⟨arr,f1,f2.ext ((hr1.heap (w':=w) hw1.symm ⟨hs1.1.symm,hs1.2.1.symm,hs1.2.2.symm⟩).2)⟩
   split at ha1
   ·rename_i hclip
    have hcl:=hc hclip
    split at ha1
    ·rename_i he
     have:=isEmpty_nil he;subst this;cases ha1
     have h2:=harrs
     have harr:arr.toList= []:=by have:=h2.1;simp[flat]at this;simpa using this
     refine⟨_,w,ρ,?_,Ext.refl _ _ _,hr,hcr⟩;rw[append_fits (m:=0) hst hii hzv hN (by simpa using hl)];simp[harr,storeCells]
    ·rename_i he
     cases ha1
     have hpos:=isEmpty_pos he
     obtain⟨row,cap,w2,h1,h2,hs2,h3,h4,h5⟩:=G1 (some ⟨B,o,none⟩) c old (by omega) holen hos hold;obtain⟨k,q1,q2,q3⟩:=newSl_ok E f dst hr (hr.dom _ hid) h2 hs2 (thawed0 _) h3 h4 h5;rw[view_append];exact⟨_,w2,_,h1,q1,q2,q3⟩
   ·split at ha1
    ·rename_i hoff
     subst hoff;cases ha1
     obtain⟨xb,hxb⟩: ∃xb,view h b=some xb:=by
      cases hvb:view h b with
      |none=>rw [hr.dom b hvb]at hb0;cases hb0
      |some xb=>exact⟨xb,rfl⟩
     obtain⟨sz',ls,hls⟩: ∃sz' ls,h[b]?=some (.arr sz' ls):=by
      simp only[elemsA]at hold0
      cases hvb:h[b]? with
      |none=>simp [hvb]at hold0
      |some q=>cases q<;>simp [hvb]at hold0;exact⟨_,_,rfl⟩
     have hbv:view h b=some (.arr sz' ls):=hls;obtain⟨B1,k1,hρt,_,hk1,cs1,e1,fz1,hb1,hth1,_,hel1⟩:=hr.blk b _ hbv nofun;rw[hb0]at hρt;cases hρt;rw[hb]at hb1;cases hb1
     obtain⟨hls2,hszz⟩:old=(ls.drop 0).take n∧i.size=sz':=by
      simp only[elemsA,hls]at hold0;split at hold0
      ·rename_i hcc;cases hold0;exact⟨rfl,hcc.2⟩
      ·cases hold0
     subst hszz
     have hel:Elems (Forb A ρ (view h)) ρ w cs 0 i.size old:=by
      have:=hel1.cut 0 n;rw[hls2];simpa using this
     have hview:view (h.set b .dead++ [.arr i.size (old++new)])=setG (setG (view h) b .dead) h.length (.arr i.size (old++new)):=by
      rw[view_append,view_set hls,List.length_set]
     rw[hview]
     have hml:(old++new).length*i.size=old.length*i.size+new.length*i.size:=by rw[List.length_append,Nat.add_mul]
     by_cases hfit:n+new.length≤c
     ·have h2:=harrs
      have hrun:=append_fits (ty:=ty) (base:=some ⟨B,o,none⟩) (n:=n) hst hii hzv hN hfit
      have harr:arr.toList.length=new.length*i.size:=by rw[h2.1,flat_length hns]
      have hroom2:(old++new).length*i.size≤cs.size:=by
       have:=Nat.mul_le_mul_right i.size hfit;rw[List.length_append,holen];simp at hr';omega
      rcases Nat.eq_zero_or_pos new.length with h0|h0
      ·obtain rfl:=List.eq_nil_of_length_eq_zero h0
       have harr0:arr.toList= []:=by simpa using harr
       obtain⟨m1,m2⟩:=hr.onto (w':=w) hb0 hbv rfl hid (Nat.le_refl 0) hb (set_same hb).symm (SameS.refl w) rfl (fun _ _=>rfl) (.arr i.size (old++ []));refine⟨.slice (some ⟨B,o,none⟩) n c,w,_,?_,m1,m2 ⟨rfl,cs,e',fz,hb,hth1,by omega,by have:=hel.mono (F':=Forb A (setR ρ h.length (B,0)) (setG (setG (view h) b .dead) h.length (.arr i.size (old++ [])))) m1.sub m1.keeps;rw[List.append_nil]at this ⊢;exact this⟩,?_⟩
       ·rw[hrun];simp[harr0,storeCells]
       ·rw[List.append_nil,holen]
        exact .sl (by simp[setR]) hb hr' hl (fun h=>by cases h) ho
      ·have ho0:o=0:=by rcases ho with h'|h'; · omega
                        ·simpa using h'
       subst ho0;have hone: ∀v∈arr.toList,v.oneCell'=true:=leaves_one h2 hnl;have hstore:=storeCells_run (P:=E.P) (B:=B) (o:=0+n*i.size) arr.toList 0 cs w hb (by rw[holen]at hml;omega) (fun off p1 p2=>hth1 off (Nat.zero_le _) p2) hone;rw[Nat.add_zero]at hstore
       obtain⟨m1,m2⟩:=hr.onto (w':={w with heap:=w.heap.setIfInBounds B (.cells (putL cs (0+n*i.size) arr.toList) e' fz)}) (k:=0) hb0 hbv rfl hid (Nat.le_refl 0) hb rfl ⟨rfl,rfl,rfl⟩ (putL_size ..)
        (fun off hoff=>by omega) (.arr i.size (old++new))
       have hB:({w with heap:=w.heap.setIfInBounds B (.cells (putL cs (0+n*i.size) arr.toList) e' fz)}:World).heap[B]?=some (.cells (putL cs (0+n*i.size) arr.toList) e' fz):=Array.getElem?_setIfInBounds_self_of_lt (lt_of_get hb);refine⟨.slice (some ⟨B,0,none⟩) (n+new.length) c,_,_,?_,m1,m2 ⟨rfl,_,_,_,hB,by rw[putL_size];exact hth1,by rw[putL_size];exact hroom2,?_⟩,?_⟩
       ·rw[hrun]
        simp only[add0,hstore,Result.andThen_ok]
       ·have:=crs_putL (m:=0) (hel.mono m1.sub m1.keeps) hns (h2.ext m1) (by omega)
        rw[holen]at this;exact this
       ·have hsum:(old++new).length=n+new.length:=by rw[List.length_append,holen]
        rw[hsum];exact .sl (by simp[setR]) hB (by rw[putL_size];exact hr') hfit (fun h=>by cases h) (.inr (by simp))
     ·obtain⟨row,cap,w2,h1,h2,hs2,h3,h4,h5⟩:=G1 (some ⟨B,o,none⟩) c old (by omega) holen hos hold
      obtain⟨x1,hrk⟩:=hr.kill hbv
      have hidk:setG (view h) b .dead h.length=none:=by
       have:h.length≠b:=fun e=>by rw[←e]at hls;simp at hls
       simp[setG,this,hid]
      obtain⟨m1,m2⟩:=hrk.alloc (w':=w2) (hrk.dom _ hidk) h2 hs2 0 (.arr i.size (old++new))
      have hb2:w2.heap[w.heap.size]?=some (.cells row e (0,0)):=by rw[h2];simp
      have h45:=Nat.mul_le_mul_right i.size h4
      refine⟨_,w2,_,h1,x1.trans m1,m2 ⟨rfl,row,e,(0,0),hb2,thawed0 _,by omega,(h3.mono x1.sub x1.keeps).mono m1.sub m1.keeps⟩,?_⟩;exact .sl (by simp[setR]) hb2 (by rw[Nat.zero_add];exact h5) h4 (fun h=>by cases h) (.inr (by simp))
    ·cases ha1
 |vsl hb0 hl hc ho=>cases ha
 |_=>cases hn
end
end Go.Proofs.YthnajefdiljneaaDoor.AM
namespace Go.Proofs.YthnajefdiljneaaDoor.AM
set_option linter.unusedSectionVars false
set_option linter.unusedVariables false
set_option linter.unusedSimpArgs false
section
variable {F:Area} {ρ:Rho} {w:World} {G:Nat→Option (List AV)} {A:Area} {g:View} {w':World}
theorem plain1_bits{x y:AV}(h:plain1 x y=true){u v:Value}(hu:CR F ρ w u x)(hv:CR F ρ w v y)(n:Nat):Instr.sameBits n v u=true:=by
 cases x<;>cases y<;>simp [plain1]at h<;>cases hu<;>cases hv
 ·subst h;cases n<;>simp [Instr.sameBits]
 ·obtain⟨rfl,rfl⟩:=h;cases n<;>simp [Instr.sameBits]
 ·have h2: ∀a b:ByteArray,(a==b)=true→(b==a)=true:=fun a b h=>by
   rw[beq_toListBytes]at h ⊢
   rw[beq_iff_eq]at h ⊢;exact h.symm
  cases n<;>simp only[Instr.sameBits]<;>exact h2 _ _ h
theorem plains_bits: ∀{xs ys:List AV} {us vs:List Value},plains xs ys=true→CRs F ρ w us xs→CRs F ρ w vs ys→ ∀n,us.length=vs.length∧(vs.zip us).all (fun(x,y)=>Instr.sameBits n x y)=true
 | [],[],us,vs,h,hu,hv,n=>by
   obtain rfl:=List.eq_nil_of_length_eq_zero hu.1;obtain rfl:=List.eq_nil_of_length_eq_zero hv.1;exact⟨rfl,rfl⟩
 |x::xs,y::ys,us,vs,h,hu,hv,n=>by
  cases us with
  |nil=>have:=hu.1;simp at this
  |cons u us=>
   cases vs with
   |nil=>have:=hv.1;simp at this
   |cons v vs=>
    simp only[plains,Bool.and_eq_true]at h;obtain⟨h1,h2⟩:=plains_bits h.2 hu.tail hv.tail n;refine⟨by simp[h1],?_⟩;simp only[List.zip_cons_cons,List.all_cons,Bool.and_eq_true];exact⟨plain1_bits h.1 hu.head hv.head n,h2⟩
 | [],_::_,us,vs,h,hu,hv,n=>by simp[plains]at h
 |_::_,[],us,vs,h,hu,hv,n=>by simp[plains]at h
theorem plainEq_bits{x y:AV}(h:plainEq x y=true){u v:Value}(hu:CR F ρ w u x)(hv:CR F ρ w v y):Instr.sameBits 10000 v u=true:=by
 unfold plainEq at h;split at h
 ·obtain⟨us,rfl,hus⟩:=hu.agg_inv
  obtain⟨vs,rfl,hvs⟩:=hv.agg_inv;obtain⟨h1,h2⟩:=plains_bits h hus hvs 9999;rw[show(10000:Nat)=9999+1 from rfl];simp only[Instr.sameBits,Bool.and_eq_true,beq_iff_eq];simp only[Array.length_toList]at h1;exact⟨h1.symm,h2⟩
 ·exact plain1_bits h hu hv _
variable {E:Env}
theorem mapSet_run(hS:Smet E.P E.S){h:H}{t kt et:TypeId}(ht:E.P.underlying t=some (.map kt et)){b:Nat}{es:List (AV×AV)}(hb:h[b]?=some (.map es)){k v:AV}(hka:keyA E.P 99 kt k=true){r:Option (Nat×AV)}
  (hf:find (eqT E.P E.S 99 kt) k es=some r) {es':List (AV×AV)} (he:match r with|some (i,_)=>(∃e,es[i]?=some e∧plainEq k e.1=true)∧es'=es.set i (k,v)|none=>es'=es++ [(k,v)])
  (hr:HR E.G A ρ w (view h)) {vm vk vv:Value} (hm:CR (Forb A ρ (view h)) ρ w vm (.map b)) (hk:CR (Forb A ρ (view h)) ρ w vk k) (hv:CR (Forb A ρ (view h)) ρ w vv v):
  ∃w',(Instr.mapUpdate t vm vk vv).run E.P w= .ok () w'∧Ext (Own ρ (view h)) ρ w (Own ρ (view (h.set b (.map es')))) ρ w'∧HR E.G A ρ w' (view (h.set b (.map es'))):=by
 cases hm with
 | @map _ B hb0=>
   have hbv:view h b=some (.map es):=hb;obtain⟨B',k',h1,_,h0,ents,clock,h3,h4,h5⟩:=hr.blk b _ hbv nofun;rw[hb0]at h1;cases h1;have hent:EntsR (Forb A ρ (view h)) ρ w ents.toList es:=⟨by simpa using h4,fun i e x he hx=>h5 i e x (by rw[Array.getElem?_toList]at he;exact he) hx⟩;obtain⟨r',hr1,hr2⟩:=findKey_run hS hka hk hf hent
   have hgo:(getObj B).run E.P w= .ok (.map ents clock) w:=by simp[getObj,Sem.run,h3]
   have hck:(Instr.checkKey false 10000 kt vk).run E.P w= .ok () w:=(keyAF 99).1 kt k hka 10000 (by omega) _ _ w false _ hk
   have hset: ∀o,(setObj B o).run E.P w= .ok () {w with heap:=w.heap.setIfInBounds B o}:=fun o=>by simp[setObj,Sem.run,h3]
   have fin: ∀(ents':Array MapEntry) (clock':Nat),ents'.size=es'.length→(∀(i:Nat) (e:MapEntry) (x:AV×AV),ents'[i]?=some e→es'[i]?=some x→CR (Forb A ρ (view h)) ρ w e.key x.1∧CR (Forb A ρ (view h)) ρ w e.val x.2)→
     (Instr.mapUpdate t (.map (some B)) vk vv).run E.P w= .ok () {w with heap:=w.heap.setIfInBounds B (.map ents' clock')}→
     ∃w',(Instr.mapUpdate t (.map (some B)) vk vv).run E.P w= .ok () w'∧Ext (Own ρ (view h)) ρ w (Own ρ (view (h.set b (.map es')))) ρ w'∧HR E.G A ρ w' (view (h.set b (.map es'))):=by
    intro ents' clock' hsz hrel hrun;obtain⟨m1,m2⟩:=hr.modify (w':={w with heap:=w.heap.setIfInBounds B (.map ents' clock')}) hb0 hbv rfl rfl ⟨rfl,rfl,rfl⟩ (fun cs e fz hc=>by rw[h3]at hc;cases hc) (.map es');rw[view_set hb];refine⟨_,hrun,m1,m2 ⟨rfl,ents',clock',Array.getElem?_setIfInBounds_self_of_lt (lt_of_get h3),hsz,fun i e x he hx=>?_⟩⟩;exact⟨(hrel i e x he hx).1.ext m1,(hrel i e x he hx).2.ext m1⟩
   cases r with
   |none=>
    cases r' with
    |some p=>simp [FoundR]at hr2
    |none=>
     simp only at he;subst he
     refine fin (ents.push {key:=vk,val:=vv,born:=clock}) (clock+1) (by simp[h4]) (fun i e x he hx=>?_) ?_
     ·rw[Array.getElem?_push]at he
      split at he
      ·rename_i hi
       cases he;rw[hi,h4,List.getElem?_append_right (Nat.le_refl _)]at hx;simp at hx;subst hx;exact⟨hk,hv⟩
      ·rename_i hi
       have hlt:=lt_of_get he
       rw[List.getElem?_append_left (by omega)]at hx;exact h5 i e x he hx
     ·simp[Instr.mapUpdate,run_underlying ht,hgo,hck,hr1,hset]
   |some p=>
    obtain⟨i,u⟩:=p
    cases r' with
    |none=>simp [FoundR]at hr2
    |some p'=>
     obtain⟨i',u'⟩:=p';simp only[FoundR,Nat.zero_add]at hr2;obtain⟨rfl,_⟩:=hr2;simp only at he;obtain⟨⟨e0,he0,hpl⟩,rfl⟩:=he
     have hlt:i'<ents.size:=by rw[h4];exact lt_of_getl he0
     have hold:=h5 i' ents[i'] e0 (Array.getElem?_eq_getElem hlt) he0
     have hbits:=plainEq_bits hpl hk hold.1
     refine fin (ents.modify i' fun e=>{e with key:=vk,val:=vv}) clock (by simp[h4]) (fun j e x he hx=>?_) ?_
     ·rw[Array.getElem?_modify]at he
      rw[List.getElem?_set]at hx;split at he
      ·rename_i hij
       subst hij;rw[Array.getElem?_eq_getElem hlt]at he;simp only[Option.map_some,Option.some.injEq]at he;subst he;rw[if_pos rfl,if_pos (by omega)]at hx;cases hx;exact⟨hk,hv⟩
      ·rename_i hij
       rw[if_neg hij]at hx;exact h5 j e x he hx
     ·have hkts:(Instr.keyThatStays ents[i'].key vk).run E.P w= .ok vk w:=by simp[Instr.keyThatStays,hbits]
      simp[Instr.mapUpdate,run_underlying ht,hgo,hck,hr1,hset,Array.getElem?_eq_getElem hlt,hkts]
theorem copyA_run{dt st:TypeId}{d s y:AV}{h h':H}(hc:copyA E.P dt st d s h= .ok (y,h'))(hr:HR E.G A ρ w (view h)){vd vs:Value}(hd:CR (Forb A ρ (view h)) ρ w vd d)(hs:CR (Forb A ρ (view h)) ρ w vs s)(ty:TypeId):
  ∃v w',(Builtin.copy_ #[dt,st] ty #[vd,vs]).run E.P w= .ok v w'∧Ext (Own ρ (view h)) ρ w (Own ρ (view h')) ρ w'∧HR E.G A ρ w' (view h')∧CR (Forb A ρ (view h')) ρ w' v y:=by
 obtain⟨de,hde,hc1⟩:=R.bind_ok hc;clear hc;split at hc1
 case h_2=>cases hc1
 rename_i e;obtain⟨sz,hsz,hc⟩:=R.bind_ok hc1;clear hc1;obtain⟨new,hnew,hc1⟩:=R.bind_ok hc;clear hc;obtain⟨_,hlen,hns,hfirst⟩:=newsA_run hnew hr (fun _ _=>rfl) hs
 have e1:=run_under hde w
 cases hd with
 |nils=>
  cases hc1;obtain⟨arr,h1,h2⟩:=hfirst 0 (Nat.zero_le _);refine⟨.int .i64 0,w,?_,Ext.refl _ _ _,hr, .int _ _⟩;simp[Builtin.copy_,e1,hlen,run_size hsz,h1,goInt]
 | @sl b B o off len sz' c clip cs e' fz hb0 hb hr' hl hcl ho=>
   simp only at hc1
   cases hls:h[b]? with
   |none=>simp [hls]at hc1
   |some blk=>
    cases blk with
    |arr sz'' l=>
     simp only[hls]at hc1;split at hc1
     ·rename_i hcond
      obtain⟨rfl,rfl,hol,hleaf⟩:=hcond;cases hc1;have hbv:view h b=some (.arr sz l):=hls;obtain⟨B1,k1,hρt,_,hk1,cs1,e1',fz1,hb1,hth1,hsz1,hel1⟩:=hr.blk b _ hbv nofun;rw[hb0]at hρt;cases hρt;rw[hb]at hb1;cases hb1
      have hnl:(flat new).all AV.leaf=true:=by
       rw[List.all_eq_true]at hleaf ⊢
       intro y hy;obtain⟨x,hx,hyx⟩:=List.mem_flatMap.1 hy;exact List.all_eq_true.1 (hleaf x hx) y hyx
      obtain⟨arr,h1,h2⟩:=hfirst (min new.length len) (Nat.min_le_left _ _)
      have hnt: ∀y,y∈new.take (min new.length len)→y.cells.length=sz:=fun y hy=>hns y (List.mem_of_mem_take hy)
      have harr:arr.toList.length=min new.length len*sz:=by rw[h2.1,flat_length hnt];simp
      have hnl2:(flat (new.take (min new.length len))).all AV.leaf=true:=by
       rw[←flat_take hns,List.all_eq_true]
       exact fun y hy=>List.all_eq_true.1 hnl y (List.mem_of_mem_take hy)
      have hle:off*sz+min new.length len*sz≤l.length*sz:=by rw[←Nat.add_mul];exact Nat.mul_le_mul_right _ (by omega)
      obtain⟨o',ho',hst⟩: ∃o',(arr.toList= []∨o'=o)∧o'=off*sz:=by
       refine⟨off*sz,?_,rfl⟩
       rcases ho with h'|h'
       ·left
        have:min new.length len=0:=by omega
        rw[this,Nat.zero_mul]at harr;exact List.eq_nil_of_length_eq_zero harr
       ·right;exact h'.symm
      have hone:=leaves_one h2 hnl2
      have hstore:(storeCells ⟨B,o,none⟩ arr.toList).run E.P w= .ok () {w with heap:=w.heap.setIfInBounds B (.cells (putL cs o' arr.toList) e' fz)}:=by
       rcases ho' with h'|h'
       ·rw[h'];simp[storeCells,putL,set_same hb]
       ·subst h'
        have:=storeCells_run (P:=E.P) (B:=B) (o:=o') arr.toList 0 cs w hb (by omega) (fun off p1 p2=>hth1 off (Nat.zero_le _) p2) hone;rw[Nat.add_zero]at this;exact this
      subst hst
      obtain⟨m1,m2⟩:=hr.modify (w':={w with heap:=w.heap.setIfInBounds B (.cells (putL cs (off*sz) arr.toList) e' fz)}) hb0 hbv rfl rfl ⟨rfl,rfl,rfl⟩
       (fun cs1 e1 fz1 hb1=>by rw[hb]at hb1;cases hb1;exact⟨_,_,rfl,putL_size ..⟩) (.arr sz (l.take off++new.take (min new.length len)++l.drop (off+min new.length len)))
      rw[view_set hls]
      have hnewlen:(l.take off++new.take (min new.length len)++l.drop (off+min new.length len)).length=l.length:=by simp;omega
      have hflat:flat (l.take off++new.take (min new.length len)++l.drop (off+min new.length len))=setCells (flat l) (off*sz) (flat (new.take (min new.length len))):=by
       have hln:(flat (new.take (min new.length len))).length=min new.length len*sz:=by rw[flat_length hnt];simp
       rw[setCells_eq _ _ _ (by rw[flat_length hel1.1,hln];exact hle),hln,←Nat.add_mul,flat_take hel1.1,flat_drop hel1.1,flat_append,flat_append]
      refine⟨.int .i64 (min new.length len:Nat),_,?_,m1,m2 ⟨rfl,_,_,_,Array.getElem?_setIfInBounds_self_of_lt (lt_of_get hb),by rw[putL_size];exact hth1,by rw[hnewlen,putL_size];exact hsz1,⟨fun y hy=>?_,?_⟩⟩, .int _ _⟩
      ·simp only[Builtin.copy_,List.getElem?_toArray,List.getElem?_cons_zero,List.getElem?_cons_succ,Sem.run_bind,e1,hlen,Result.andThen_ok,run_size hsz]
       have:Nat.min new.length len=min new.length len:=rfl;simp only[this,h1,Result.andThen_ok,Sem.run_bind,hstore,Sem.run_pure,goInt]
      ·rcases List.mem_append.1 hy with hy|hy
       ·rcases List.mem_append.1 hy with hy|hy
        ·exact hel1.1 y (List.mem_of_mem_take hy)
        ·exact hnt y hy
       ·exact hel1.1 y (List.mem_of_mem_drop hy)
      ·rw[hflat,hnewlen,List.drop_zero]
       have hrow:=hel1.2
       rw[List.drop_zero]at hrow;refine⟨by rw[setCells_length,flat_length hel1.1];simp[putL_size];omega,fun j u z hu hz=>?_⟩
       have hln:(flat (new.take (min new.length len))).length=min new.length len*sz:=by rw[flat_length hnt];simp
       rw[setCells_get _ _ _ _ (by rw[flat_length hel1.1,hln];exact hle),hln]at hz;rw[List.getElem?_take]at hu;split at hu
       ·rename_i hj
        rw[Array.getElem?_toList,putL_get _ _ _ _ (by omega),harr]at hu;split at hz
        ·rename_i hjj
         rw[if_pos hjj]at hu;exact(h2.2 _ u z hu hz).ext m1
        ·rename_i hjj
         rw[if_neg hjj]at hu;exact(hrow.2 j u z (by rw[List.getElem?_take,if_pos hj,Array.getElem?_toList];exact hu) hz).ext m1
       ·cases hu
     ·cases hc1
    |_=>simp [hls]at hc1
 |_=>cases hc1
theorem clearA_run{t:TypeId}{x y:AV}{h h':H}(hc:clearA E.P t x h= .ok (y,h'))(hr:HR E.G A ρ w (view h)){vx:Value}(hx:CR (Forb A ρ (view h)) ρ w vx x)(ty:TypeId):
  ∃v w',(Builtin.clear_ #[t] ty #[vx]).run E.P w= .ok v w'∧Ext (Own ρ (view h)) ρ w (Own ρ (view h')) ρ w'∧HR E.G A ρ w' (view h')∧CR (Forb A ρ (view h')) ρ w' v y:=by
 obtain⟨de,hde,hc1⟩:=R.bind_ok hc;clear hc;split at hc1
 case h_2=>cases hc1
 rename_i e;obtain⟨i,hi,hc⟩:=R.bind_ok hc1;clear hc1;obtain⟨z,hz,hc1⟩:=R.bind_ok hc;clear hc
 have e1:=run_under hde w
 cases hx with
 |nils=>
  cases hc1;exact⟨.tuple #[],w,by simp[Builtin.clear_,e1],Ext.refl _ _ _,hr, .tup_of .nil⟩
 | @sl b B o off len sz' c clip cs e' fz hb0 hb hr' hl hcl ho=>
   simp only at hc1
   cases hls:h[b]? with
   |none=>simp [hls]at hc1
   |some blk=>
    cases blk with
    |arr sz'' l=>
     simp only[hls]at hc1;split at hc1
     ·rename_i hcond
      obtain⟨hsi,rfl,hol,hzl,hleaf⟩:=hcond;cases hc1;obtain⟨i',zv,hi',hzv,hzo⟩:=zero_info hz;rw[info_ok hi]at hi';cases hi';have hbv:view h b=some (.arr sz' l):=hls;obtain⟨B1,k1,hρt,_,hk1,cs1,e1',fz1,hb1,hth1,hsz1,hel1⟩:=hr.blk b _ hbv nofun;rw[hb0]at hρt;cases hρt;rw[hb]at hb1;cases hb1;have hzc:CRs (Forb A ρ (view h)) ρ w zv.cells.toList z.cells:=(ofV_cr hzo).cells
      have hzs:zv.cells.size=sz':=by have:=hzc.1;simp at this;omega
      have hnt: ∀y,y∈List.replicate len z→y.cells.length=sz':=replicate_sz hzl;obtain⟨arr,harrd⟩: ∃arr,arr=Builtin.zeroCells zv.cells len:=⟨_,rfl⟩
      have h2:CRs (Forb A ρ (view h)) ρ w arr.toList (flat (List.replicate len z)):=by
       rw[harrd];exact zeros_cr (sz:=zv.cells.size) hzc (by rw[hzs];exact hzl)
      have hln:(flat (List.replicate len z)).length=len*sz':=by rw[flat_length hnt,List.length_replicate]
      have harr:arr.toList.length=len*sz':=by rw[h2.1,hln]
      have hnl2:(flat (List.replicate len z)).all AV.leaf=true:=by
       rw[List.all_eq_true]at hleaf ⊢
       intro y hy;obtain⟨x,hx,hyx⟩:=List.mem_flatMap.1 hy;rw[(List.mem_replicate.1 hx).2]at hyx;exact hleaf y hyx
      have hle:off*sz'+len*sz'≤l.length*sz':=by rw[←Nat.add_mul];exact Nat.mul_le_mul_right _ hol
      obtain⟨o',ho',hst⟩: ∃o',(arr.toList= []∨o'=o)∧o'=off*sz':=by
       refine⟨off*sz',?_,rfl⟩
       rcases ho with h'|h'
       ·left
        have:len=0:=by omega
        rw[this,Nat.zero_mul]at harr;exact List.eq_nil_of_length_eq_zero harr
       ·right;exact h'.symm
      have hone:=leaves_one h2 hnl2
      have hstore:(storeCells ⟨B,o,none⟩ arr.toList).run E.P w= .ok () {w with heap:=w.heap.setIfInBounds B (.cells (putL cs o' arr.toList) e' fz)}:=by
       rcases ho' with h'|h'
       ·rw[h'];simp[storeCells,putL,set_same hb]
       ·subst h'
        have:=storeCells_run (P:=E.P) (B:=B) (o:=o') arr.toList 0 cs w hb (by omega) (fun off p1 p2=>hth1 off (Nat.zero_le _) p2) hone;rw[Nat.add_zero]at this;exact this
      subst hst
      obtain⟨m1,m2⟩:=hr.modify (w':={w with heap:=w.heap.setIfInBounds B (.cells (putL cs (off*sz') arr.toList) e' fz)}) hb0 hbv rfl rfl ⟨rfl,rfl,rfl⟩
       (fun cs1 e1 fz1 hb1=>by rw[hb]at hb1;cases hb1;exact⟨_,_,rfl,putL_size ..⟩) (.arr sz' (l.take off++List.replicate len z++l.drop (off+len)))
      rw[view_set hls]
      have hnewlen:(l.take off++List.replicate len z++l.drop (off+len)).length=l.length:=by simp;omega
      have hflat:flat (l.take off++List.replicate len z++l.drop (off+len))=setCells (flat l) (off*sz') (flat (List.replicate len z)):=by
       rw[setCells_eq _ _ _ (by rw[flat_length hel1.1,hln];exact hle),hln,←Nat.add_mul,flat_take hel1.1,flat_drop hel1.1,flat_append,flat_append]
      refine⟨.tuple #[],_,?_,m1,m2 ⟨rfl,_,_,_,Array.getElem?_setIfInBounds_self_of_lt (lt_of_get hb),by rw[putL_size];exact hth1,by rw[hnewlen,putL_size];exact hsz1,⟨fun y hy=>?_,?_⟩⟩, .tup_of .nil⟩
      ·have e5:(zeroValue e).run E.P w= .ok zv w:=by simp[zeroValue,typeInfo,info_ok hi,hzv]
       rcases Nat.eq_zero_or_pos len with h0|h0
       ·subst h0
        rw[Nat.zero_mul]at harr
        have hnil:=List.eq_nil_of_length_eq_zero harr
        rw[hnil]at hstore ⊢
        simp[storeCells]at hstore;simp[Builtin.clear_,e1,←hstore]
       ·obtain⟨m,rfl⟩: ∃m,len=m+1:=⟨len-1,by omega⟩
        simp only[Builtin.clear_,List.getElem?_toArray,List.getElem?_cons_zero,Sem.run_bind,e1,Result.andThen_ok,e5,←harrd,hstore,Sem.run_pure]
      ·rcases List.mem_append.1 hy with hy|hy
       ·rcases List.mem_append.1 hy with hy|hy
        ·exact hel1.1 y (List.mem_of_mem_take hy)
        ·exact hnt y hy
       ·exact hel1.1 y (List.mem_of_mem_drop hy)
      ·rw[hflat,hnewlen,List.drop_zero]
       have hrow:=hel1.2
       rw[List.drop_zero]at hrow;refine⟨by rw[setCells_length,flat_length hel1.1];simp[putL_size];omega,fun j u z hu hz=>?_⟩;rw[setCells_get _ _ _ _ (by rw[flat_length hel1.1,hln];exact hle),hln]at hz;rw[List.getElem?_take]at hu;split at hu
       ·rename_i hj
        rw[Array.getElem?_toList,putL_get _ _ _ _ (by omega),harr]at hu;split at hz
        ·rename_i hjj
         rw[if_pos hjj]at hu;exact(h2.2 _ u z hu hz).ext m1
        ·rename_i hjj
         rw[if_neg hjj]at hu;exact(hrow.2 j u z (by rw[List.getElem?_take,if_pos hj,Array.getElem?_toList];exact hu) hz).ext m1
       ·cases hu
     ·cases hc1
    |_=>simp [hls]at hc1
 |_=>cases hc1
variable {a:Act} {τ:Fr}
theorem append_args{P:Program}{ats:Array TypeId}{t u:TypeId}(ht:ats[0]?=some t)(hu:ats[1]?=some u)(ty:TypeId)(args:Array Value):Builtin.append_ ats ty args=Builtin.append_ #[t,u] ty args:=by
 unfold Builtin.append_;simp only[ht,hu,List.getElem?_toArray,List.getElem?_cons_zero,List.getElem?_cons_succ]
theorem copy_args{P:Program}{ats:Array TypeId}{t u:TypeId}(ht:ats[0]?=some t)(ty:TypeId)(args:Array Value):Builtin.copy_ ats ty args=Builtin.copy_ #[t,u] ty args:=by
 unfold Builtin.copy_;simp only[ht,List.getElem?_toArray,List.getElem?_cons_zero,List.getElem?_cons_succ]
theorem clear_args{P:Program}{ats:Array TypeId}{t:TypeId}(ht:ats[0]?=some t)(ty:TypeId)(args:Array Value):Builtin.clear_ ats ty args=Builtin.clear_ #[t] ty args:=by
 unfold Builtin.clear_;simp only[ht,List.getElem?_toArray,List.getElem?_cons_zero]
theorem one_arg{args:Array Operand}{f:Operand→Value}{x:AV}(h:CRs F ρ w (args.toList.map f) [x]): ∃u,args.map f= #[u]∧CR F ρ w u x:=by
 cases hv:args.toList.map f with
 |nil=>rw [hv]at h;have:=h.1;simp at this
 |cons u rest=>
  rw[hv]at h
  obtain rfl:rest= []:=by have:=h.1;simpa using this
  exact⟨u,map_toArray1 hv,h.head⟩
theorem two_args{args:Array Operand}{f:Operand→Value}{x y:AV}(h:CRs F ρ w (args.toList.map f) [x,y]): ∃u v,args.map f= #[u,v]∧CR F ρ w u x∧CR F ρ w v y:=by
 cases hv:args.toList.map f with
 |nil=>rw [hv]at h;have:=h.1;simp at this
 |cons u rest=>
  rw[hv]at h
  cases rest with
  |nil=>have:=h.1;simp at this
  |cons v rest=>
   obtain rfl:rest= []:=by have:=h.1;simpa using this
   exact⟨u,v,map_toArray1 hv,h.head,h.tail.head⟩
def Gives(P:Program)(s:Sem Next)(w:World)(v:Value)(w':World):Prop:=s.run P w= .ok (.value v) w'∨(s.run P w= .ok .skip w'∧v=Go.undef)
theorem undef_cr:CR F ρ w Go.undef undef:= .tup_of .nil
theorem heavyA_run(hS:Smet E.P E.S){f:FuncId}{h h':H}{o:Oper}{y:AV}(ha:heavyA E f τ h o= .ok (y,h'))(hr:HR E.G A ρ w (view h))(hf:FRel (Forb A ρ (view h)) ρ w a.tmps τ):
  ∃v w' ρ',Gives E.P (execOp a.eval o) w v w'∧Ext (Own ρ (view h)) ρ w (Own ρ' (view h')) ρ' w'∧HR E.G A ρ' w' (view h')∧CR (Forb A ρ' (view h')) ρ' w' v y:=by
 have hg:=hr.glob'
 unfold execOp
 have upd: ∀{t m k x},((ev E τ m).bind fun m=>(ev E τ k).bind fun k=>(ev E τ x).bind fun v=>(under E.P t).bind fun
  | .map kt _=>match m with
    | .map b=>match h[b]? with
      |some (.map es)=>if keyA E.P 99 kt k=false then .no "mapUpdate: key" else(lift "mapUpdate: key" (find (eqT E.P E.S 99 kt) k es)).bind fun
       |some (i,_)=>match es[i]? with
        |some e=>if plainEq k e.1 then .ok (undef,h.set b (.map (es.set i (k,v))))else .no "mapUpdate: key"
        |none=> .no "mapUpdate"
       |none=> .ok (undef,h.set b (.map (es++ [(k,v)])))
      |_=> .no "mapUpdate"
    |_=> .no "mapUpdate"
  |_=> .no "mapUpdate")=R.ok (y,h')→ ∃v w' ρ',Gives E.P (do Instr.mapUpdate t (a.eval m) (a.eval k) (a.eval x);pure .skip) w v w'∧Ext (Own ρ (view h)) ρ w (Own ρ' (view h')) ρ' w'∧HR E.G A ρ' w' (view h')∧CR (Forb A ρ' (view h')) ρ' w' v y:=by
  intro t m k x ha;obtain⟨vm,hm,ha1⟩:=R.bind_ok ha;clear ha;obtain⟨vk,hk,ha⟩:=R.bind_ok ha1;clear ha1;obtain⟨vx,hx,ha1⟩:=R.bind_ok ha;clear ha;obtain⟨d,hd,ha⟩:=R.bind_ok ha1;clear ha1
  have hdd:=under_ok hd
  clear hd
  cases d with
  |map kt et=>
   cases vm with
   |map b=>
    simp only at ha
    cases hb:h[b]? with
    |none=>simp [hb]at ha
    |some blk=>
    cases blk with
    |map es=>
     simp only[hb]at ha;split at ha
     ·cases ha
     ·rename_i hka
      have hka:keyA E.P 99 kt vk=true:=by simpa using hka
      obtain⟨r,hfr,ha1⟩:=R.bind_ok ha;clear ha
      have hfr:=lift_ok hfr
      cases r with
      |none=>
       cases ha1;obtain⟨w',h1,h2,h3⟩:=mapSet_run hS hdd hb hka hfr (es':=es++ [(vk,vx)]) rfl hr (ev_cr hf hg hm) (ev_cr hf hg hk) (ev_cr hf hg hx);exact⟨Go.undef,w',ρ, .inr ⟨by simp[h1],rfl⟩,h2,h3,undef_cr⟩
      |some p=>
       obtain⟨i,u⟩:=p;simp only at ha1
       cases he:es[i]? with
       |none=>simp [he]at ha1
       |some e=>
        simp only[he]at ha1;split at ha1
        ·rename_i hpl
         cases ha1;obtain⟨w',h1,h2,h3⟩:=mapSet_run hS hdd hb hka hfr (es':=es.set i (vk,vx)) ⟨⟨e,he,hpl⟩,rfl⟩ hr (ev_cr hf hg hm) (ev_cr hf hg hk) (ev_cr hf hg hx);exact⟨Go.undef,w',ρ, .inr ⟨by simp[h1],rfl⟩,h2,h3,undef_cr⟩
        ·cases ha1
    |_=>simp [hb]at ha
   |_=>cases ha
  |_=>cases ha
 cases ho:o.op with
 |store t p x=>
  simp only[heavyA,ho]at ha;obtain⟨vp,hp,ha1⟩:=R.bind_ok ha;obtain⟨vx,hx,ha2⟩:=R.bind_ok ha1;obtain⟨h2,hst,ha3⟩:=R.bind_ok ha2;cases ha3;obtain⟨w',h1,h2,h3⟩:=storeA_run hst hr (ev_cr hf hg hp) (ev_cr hf hg hx);exact⟨Go.undef,w',ρ, .inr ⟨by simp[h1],rfl⟩,h2,h3,undef_cr⟩
 |mapUpdate t m k x=>simp only[heavyA,ho]at ha;exact upd ha
 |insert t m k x=>simp only[heavyA,ho]at ha;exact upd ha
 |call c=>
  obtain⟨callee,args,ats⟩:=c
  cases callee with
  |builtin b=>
   simp only[heavyA,ho]at ha;obtain⟨vs,hvs,ha1⟩:=R.bind_ok ha;clear ha
   have hc:=evs_cr hf hg hvs
   split at ha1
   ·obtain⟨u,v,huv,hu,hv⟩:=two_args hc
    obtain⟨t,ht,ha⟩:=R.bind_ok ha1;obtain⟨t2,ht2,ha⟩:=R.bind_ok ha;obtain⟨r,w',ρ',h1,h2,h3,h4⟩:=appendA_run ha hr hu hv o.type;rw[←append_args (P:=E.P) (lift_ok ht) (lift_ok ht2)]at h1;exact⟨r,w',ρ', .inl (by simp[resolve,invoke,builtin,huv,h1]),h2,h3,h4⟩
   ·obtain⟨u,v,huv,hu,hv⟩:=two_args hc
    obtain⟨t,ht,ha⟩:=R.bind_ok ha1;obtain⟨t2,ht2,ha⟩:=R.bind_ok ha;obtain⟨r,w',h1,h2,h3,h4⟩:=copyA_run ha hr hu hv o.type;rw[←copy_args (P:=E.P) (lift_ok ht)]at h1;exact⟨r,w',ρ, .inl (by simp[resolve,invoke,builtin,huv,h1]),h2,h3,h4⟩
   ·obtain⟨u,huv,hu⟩:=one_arg hc
    obtain⟨t,ht,ha⟩:=R.bind_ok ha1;obtain⟨r,w',h1,h2,h3,h4⟩:=clearA_run ha hr hu o.type;rw[←clear_args (P:=E.P) (lift_ok ht)]at h1;exact⟨r,w',ρ, .inl (by simp[resolve,invoke,builtin,huv,h1]),h2,h3,h4⟩
   ·cases ha1
  |value f=>simp only[heavyA,ho]at ha;cases ha
  |invoke r m=>simp only[heavyA,ho]at ha;cases ha
 |convert src dst x=>
  simp only[heavyA,ho]at ha;obtain⟨v,hv,ha1⟩:=R.bind_ok ha;clear ha;obtain⟨us,hus,ha⟩:=R.bind_ok ha1;clear ha1
  have hc:=ev_cr hf hg hv
  obtain⟨u,hu⟩: ∃u,a.eval x=u:=⟨_,rfl⟩;rw[hu]at hc;split at ha
  ·rename_i e b off n sz clip
   obtain⟨ue,hue,ha1⟩:=R.bind_ok ha;clear ha;split at ha1
   ·rename_i sz' l hbv
    split at ha1
    ·rename_i hcond
     obtain⟨rfl,rfl,rfl,hlen⟩:=hcond;cases ha1;have hview:view (h.set b .dead)=setG (view h) b .dead:=view_set hbv _
     cases hc with
     | @sl _ B o _ _ _ c _ cs e' fz hρ hb hroom hnc hclip ho'=>
       obtain⟨B1,k1,hρ1,_,hk1,cs1,e1,fz1,hb1,hth1,hsz1,hel⟩:=hr.blk b _ hbv nofun;rw[hρ]at hρ1;cases hρ1;rw[hb]at hb1;cases hb1
       have hmod:(w.freeze {block:=B,off:=cs.size} 1).heap=w.heap.setIfInBounds B (.cells cs e' (if fz.1==fz.2 then(cs.size,cs.size+1)else(min fz.1 cs.size,max fz.2 (cs.size+1)))):=by
        have hlt:=hr.lt hρ
        unfold World.freeze;rw[if_neg (by decide)]
        refine Array.ext_getElem? fun i=>?_
        by_cases hi:B=i
        ·subst hi
         rw[Array.getElem?_setIfInBounds_self_of_lt hlt,Array.getElem?_modify,if_pos rfl,hb];rfl
        ·rw[Array.getElem?_setIfInBounds_ne hi,Array.getElem?_modify,if_neg hi]
       have hst:SameS w (w.freeze {block:=B,off:=cs.size} 1):=by
        unfold World.freeze;rw[if_neg (by decide)];exact⟨rfl,rfl,rfl⟩
       obtain⟨m1,m2⟩:=hr.spend hρ hbv rfl hb hmod hst;rw[hview];refine⟨.slice (some ⟨B,o,none⟩) n c,_,ρ, .inl ?_,m1,m2,?_⟩
       ·have hsh:w.shape? B=some (e',cs.size):=by unfold World.shape?;rw[hb]
        simp only[Sem.run_bind,hu,convert,run_under hus,run_under hue,Result.andThen_ok,beq_self_eq_true,markStringish,run_shape,hsh,run_freeze,Sem.run_pure]
       ·have hl:((l.drop off).take n).length=n:=by rw[List.length_take,List.length_drop];omega
        rcases Nat.eq_zero_or_pos c with h0|h0
        ·subst h0
         obtain rfl:n=0:=by omega
         rw[List.take_zero];exact .lst0 nofun
        ·have hoo:o=off*1:=ho'.resolve_left (by omega)
         have hcut:=hel.cut off n
         rw[Nat.zero_add,←hoo]at hcut
         have hb':(w.freeze {block:=B,off:=cs.size} 1).heap[B]?=some (.cells cs e' (if fz.1==fz.2 then(cs.size,cs.size+1)else(min fz.1 cs.size,max fz.2 (cs.size+1)))):=by
          rw[hmod];simp[Array.getElem?_setIfInBounds_self,hr.lt hρ]
         have hF: ∀j,j<((l.drop off).take n).length*1→ ¬Forb A ρ (setG (view h) b .dead) B (o+j):=by
          intro j _ hF
          rcases hF with⟨b2,k2,blk2,r1,r2,r3,r4⟩|hA
          ·simp only[setG]at r2
           split at r2
           ·cases r2;cases r3
           ·rename_i hne
            exact hne (hr.sep b2 b B k2 0 blk2 _ r1 hρ r2 hbv r3 rfl)
          ·exact(hr.avo B _ hA).2 ⟨b,0,_,hρ,hbv,rfl,Nat.zero_le _⟩
         have hl2:n=((l.drop off).take n).length:=hl.symm
         have key:CR (Forb A ρ (setG (view h) b .dead)) ρ (w.freeze {block:=B,off:=cs.size} 1) (.slice (some ⟨B,o,none⟩) ((l.drop off).take n).length c) (.lst 1 ((l.drop off).take n) .open_):=
          .lst_of hb' hF (hcut.mono m1.sub m1.keeps) (by omega) (by omega) (fun h=>by cases h) (fun t h=>by cases h)
         rw[hl]at key;exact key
     |_=>skip
    ·cases ha1
   ·cases ha1
  ·cases ha
 |_=>simp only[heavyA,ho]at ha;cases ha
end
end Go.Proofs.YthnajefdiljneaaDoor.AM
namespace Go.Proofs.YthnajefdiljneaaDoor.AM
set_option linter.unusedSectionVars false
set_option linter.unusedVariables false
set_option linter.unusedSimpArgs false
section
variable {E:Env} {s0 nn:Nat} {rd:Option Nat}
def DeOK(s0:Nat)(ds:List Deferred)(w:World)(O:Area):Prop:=
 s0≤w.heap.size∧ds.Nodup∧ ∀d,d∈ds→ ∃D,d={target:= .collected D,args:= #[]}∧s0≤D∧w.heap[D]?=some (.deferred (some []))∧ ∀off,¬O D off
theorem DeOK.nil{w:World}{O:Area}(h:s0≤w.heap.size):DeOK s0 [] w O:=⟨h,List.nodup_nil,fun d h=>by cases h⟩
theorem DeOK.ext{ds:List Deferred}{w w':World}{O O':Area}{ρ ρ':Rho}(h:DeOK s0 ds w O)(hx:Ext O ρ w O' ρ' w'):DeOK s0 ds w' O':=
 ⟨Nat.le_trans h.1 hx.size,h.2.1,fun d hd=>by
  obtain⟨D,h1,h2,h3,h4⟩:=h.2.2 d hd
  have hlt:=lt_of_get h3
  refine⟨D,h1,h2,by rw[hx.keepo D hlt h4];exact h3,fun off ho=>?_⟩
  rcases hx.new D off ho with h5|h5
  ·exact h4 off h5
  ·omega⟩
structure St (E:Env) (A:Area) (ρ:Rho) (w:World) (a:Act) (τ:Fr) (g:View) (N s0:Nat):Prop where
 hr:HR E.G A ρ w g
 fr:FRel (Forb A ρ g) ρ w a.tmps τ
 sz:a.tmps.size=N
 de:DeOK s0 a.defers w (Own ρ g)
def fw(rd:Option Nat):Fence:={Fence.wide with round:=rd}
theorem semAt_nd{ρ:Operand→Value}{o:Oper}(h: ∀c,o.op≠ .defer c):o.semAt rd ρ=execOp ρ o:=by
 cases rd with
 |none=>simp [Oper.semAt]
 |some l=>exact Oper.semAt_some l _ _ h
def CallOK(E:Env)(call:CallF):Prop:=
 ∀f args h r h',call f args h= .ok (r,h')→ ∀(A:Area) (ρ:Rho) (w:World) (vs:Array Value),HR E.G A ρ w (view h)→CRs (Forb A ρ (view h)) ρ w vs.toList args→
  (∀W,(callFunc f vs).run E.P W= .ok (.enter f vs) W)∧Calls E.P f vs w fun e w'=> ∃v ρ',e= .returned v∧Ext (Own ρ (view h)) ρ w (Own ρ' (view h')) ρ' w'∧HR E.G A ρ' w' (view h')∧CR (Forb A ρ' (view h')) ρ' w' v r
def COK(E:Env):Prop:=CallOK E fun f args h=>match E.C f args with
 |some r=> .ok (thaw h r)
 |none=> .no ""
theorem noF_thaw:(∀v:AV,noF v=true→ ∀h,thaw h v=(v,h)):=by
 intro v
 exact AV.rec (motive_1:=fun v=>noF v=true→ ∀h,thaw h v=(v,h)) (motive_2:=fun l=>noFs l=true→ ∀h,thaws h l=(l,h))
  (fun _ _ _=>rfl) (fun _ _ _ _=>rfl) (fun _ _ _=>rfl) (fun _ _=>rfl) (fun _ _ _ _=>rfl) (fun _ _ _ _ _ _=>rfl) (fun _ _ _ _ _=>rfl) (fun _ _=>rfl) (fun _ _ _ _ _ _ _=>rfl)
  (fun _ _ _ _ _ _=>rfl) (fun _ _ _ _ _ _=>rfl) (fun _ _ _ h=>by simp[noF]at h) (fun _ _=>rfl) (fun _ _ _=>rfl) (fun _ _=>rfl) (fun _ _ _ _ _ _ _=>rfl) (fun _ _=>rfl)
  (fun cs ih h hh=>by simp only[noF]at h;simp[thaw,ih h hh]) (fun cs ih h hh=>by simp only[noF]at h;simp[thaw,ih h hh])
  (fun _ _=>rfl) (fun x xs h1 h2 h hh=>by simp only[noFs,Bool.and_eq_true]at h;simp[thaws,h1 h.1,h2 h.2]) v
theorem FRel.ext{A:Area}{ρ ρ':Rho}{g g':View}{w w':World}(h:Ext (Own ρ g) ρ w (Own ρ' g') ρ' w'){tmps:Array Value}{τ:Fr}(hf:FRel (Forb A ρ g) ρ w tmps τ):FRel (Forb A ρ' g') ρ' w' tmps τ:=fun i=>(hf i).ext h
theorem FRel.put{F:Area}{ρ:Rho}{w:World}{a:Act}{τ τ':Fr}{N:Nat}(hf:FRel F ρ w a.tmps τ)(hN:a.tmps.size=N){dst:Option Nat}{v:Value}{y:AV}(hv:CR F ρ w v y)(hp:putA N τ dst y= .ok τ'):FRel F ρ w (a.put dst v).tmps τ':=by
 cases dst with
 |none=>cases hp;exact hf
 |some d=>
  simp only[putA_some]at hp;split at hp
  ·rename_i hd
   cases hp;intro i;simp only[Act.put,upd_eq]
   by_cases hi:i=d
   ·subst hi
    rw[if_pos rfl];simp[Array.getD_eq_getD_getElem?,Array.getElem?_setIfInBounds_self_of_lt (by omega:i<a.tmps.size)];exact .inr hv
   ·rw[if_neg hi]
    have:(a.tmps.setIfInBounds d v).getD i Go.undef=a.tmps.getD i Go.undef:=by
     simp[Array.getD_eq_getD_getElem?,Array.getElem?_setIfInBounds_ne (fun e=>hi e.symm)]
    rw[this];exact hf i
  ·cases hp
theorem put_size(a:Act)(dst:Option Nat)(v:Value):(a.put dst v).tmps.size=a.tmps.size:=by cases dst<;>simp [Act.put]
theorem put_defers(a:Act)(dst:Option Nat)(v:Value):(a.put dst v).defers=a.defers:=by cases dst<;>simp [Act.put]
theorem St.put{A:Area}{ρ ρ':Rho}{w w':World}{a:Act}{τ τ':Fr}{g g':View}{N:Nat}(hs:St E A ρ w a τ g N s0)(hx:Ext (Own ρ g) ρ w (Own ρ' g') ρ' w')(hr:HR E.G A ρ' w' g'){dst:Option Nat}{v:Value}{y:AV}(hv:CR (Forb A ρ' g') ρ' w' v y)(hp:putA N τ dst y= .ok τ'):
  St E A ρ' w' (a.put dst v) τ' g' N s0:=
 ⟨hr,(hs.fr.ext hx).put hs.sz hv hp,by rw[put_size];exact hs.sz,by rw[put_defers];exact hs.de.ext hx⟩
theorem want_eq{F:Area}{ρ:Rho}{w:World}{tmps:Array Value}{τ:Fr}(hf:FRel F ρ w tmps τ)(ops:Array Oper)(o:Oper)(hg0:gtop ops τ o=false):Region.wanted o (yielded ops tmps)=wantA ops τ o:=by
 unfold gtop at hg0;unfold Region.wanted wantA
 cases hg:o.guard with
 |none=>rfl
 |some p=>
  obtain⟨j,want⟩:=p;rw[hg]at hg0;simp only at hg0;simp only[yielded]
  cases hd:(ops[j]?).bind (·.dst)with
  |none=>rfl
  |some d=>
   rw[hd]at hg0;simp only[Option.bind_some]
   have h:=(hf d).resolve_left fun⟨sz,l,e⟩=>by simp only[e]at hg0;cases hg0
   rw[Array.getD_eq_getD_getElem?]at h
   cases hv:tmps[d]? with
   |none=>
    rw[hv]at h;simp only[Option.getD_none]at h;generalize τ d=y at h
    cases h with
    |tup=>rfl
   |some v=>
    rw[hv]at h;simp only[Option.getD_some]at h;generalize τ d=y at h
    cases h<;>rfl
theorem gives_wp{o:Oper}{a:Act}{w w':World}{v:Value}{K:Act→World→Prop}{Q:Exit→Act→World→Prop}(hnd: ∀c,o.op≠ .defer c)(hg:Gives E.P (execOp a.eval o) w v w')(h:K (a.put o.dst v) w'):o.wpIn (fw rd) nn E.P a w K Q:=by
 unfold Oper.wpIn;refine⟨fun _ _=>trivial,?_⟩;rw[semAt_nd hnd]
 rcases hg with hg|⟨hg,rfl⟩
 ·rw[hg];exact h
 ·rw[hg];exact h
theorem enters_wp{o:Oper}{a:Act}{w w1:World}{f:FuncId}{args:Array Value}{R:Ending→World→Prop}{K:Act→World→Prop}{Q:Exit→Act→World→Prop}(hnd: ∀c,o.op≠ .defer c)(hrun:(execOp a.eval o).run E.P w= .ok (.enter f args) w1)(hc:Calls E.P f args w1 R)
  (h: ∀e w',R e w'→ ∃v,e= .returned v∧K (a.put o.dst v) w'):o.wpIn (fw rd) nn E.P a w K Q:=by
 unfold Oper.wpIn;refine⟨fun _ _=>trivial,?_⟩;rw[semAt_nd hnd,hrun,Oper.uponIn_enter];refine⟨fun h=>?_,?_⟩
 ·simp[fw,Fence.wide]at h
 refine CallsIn.mono (F:=fw rd) (show CallsIn Fence.wide _ _ _ _ _ _ from callsIn_wide.2 hc) (fun e w' he=>?_);obtain⟨v,rfl,hk⟩:=h e w' he;exact hk
theorem opA_nd{call:CallF}{f:FuncId}{τ:Fr}{h h':H}{o:Oper}{y:AV}(ho:opA E f call τ h o= .ok (y,h')): ∀c,o.op≠ .defer c:=by
 intro c hc;simp[opA,kindOf,hc,pureA,R.bind]at ho
theorem opA_wp(hS:Smet E.P E.S)(hC:COK E){call:CallF}(hcall:CallOK E call){f:FuncId}{τ:Fr}{h h':H}{o:Oper}{y:AV}(ho:opA E f call τ h o= .ok (y,h')){A:Area}{ρ:Rho}{w:World}{a:Act}{N:Nat}(hs:St E A ρ w a τ (view h) N s0)
  {K:Act→World→Prop} {Q:Exit→Act→World→Prop} (hK: ∀v w' ρ',Ext (Own ρ (view h)) ρ w (Own ρ' (view h')) ρ' w'→HR E.G A ρ' w' (view h')→CR (Forb A ρ' (view h')) ρ' w' v y→K (a.put o.dst v) w'):o.wpIn (fw rd) nn E.P a w K Q:=by
 have ho0:=ho
 unfold opA at ho
 cases hk:kindOf E o.op with
 |pure=>
  simp only[hk]at ho;obtain⟨v,hv,ho⟩:=R.bind_ok ho;cases ho;obtain⟨u,hu,hc⟩:=pureA_run hS hs.fr hs.hr.glob' hv hk;exact gives_wp (opA_nd ho0) (.inl hu) (hK u w ρ (Ext.refl _ _ _) hs.hr hc)
 |read=>
  simp only[hk]at ho;obtain⟨v,hv,ho⟩:=R.bind_ok ho;cases ho;obtain⟨u,hu,hc⟩:=readA_run hS hs.hr hs.fr hv (fun _ _=>rfl);exact gives_wp (opA_nd ho0) (.inl hu) (hK u w ρ (Ext.refl _ _ _) hs.hr hc)
 |light=>
  simp only[hk]at ho;obtain⟨v,hv,ho⟩:=R.bind_ok ho;cases ho
  cases hop:o.op with
  |call c=>
   obtain⟨callee,args,ats⟩:=c
   cases callee with
   |value g=>
    cases g with
    |func g=>
     simp only[lightA,hop]at hv;obtain⟨as,has,hv⟩:=R.bind_ok hv
     have hca:=evs_cr hs.fr hs.hr.glob' has
     split at hv
     ·rename_i r hr
      split at hv
      ·rename_i hnf
       cases hv
       have hargs:CRs (Forb A ρ (view h)) ρ w (args.map a.eval).toList as:=by rw[Array.toList_map];exact hca
       obtain⟨hen,hcalls⟩:=hC g as h y h (by simp only[hr,noF_thaw y hnf h]) A ρ w _ hs.hr hargs
       have hrun:(execOp a.eval o).run E.P w= .ok (.enter g (args.map a.eval)) w:=by
        unfold execOp;have:=hen w;simp[hop,resolve,Act.eval,Deferred.ofValue,invoke,this]
       refine enters_wp (opA_nd ho0) hrun hcalls ?_
       rintro e w' ⟨v,ρ',rfl,h1,h2,h3⟩;exact⟨v,rfl,hK v w' ρ' h1 h2 h3⟩
      ·cases hv
     ·cases hv
    |_=>simp only[lightA,hop]at hv;cases hv
   |builtin b=>simp only[lightA,hop]at hv;cases hv
   |invoke r m=>simp only[lightA,hop]at hv;cases hv
  |_=>simp only[lightA,hop]at hv;cases hv
 |alloc=>
  simp only[hk]at ho;obtain⟨⟨v,b⟩,hv,ho⟩:=R.bind_ok ho;cases ho;obtain⟨u,w',k,h1,h2,h3,h4⟩:=allocA_run hs.hr hs.fr (hs.hr.dom _ (view_length h)) hv;rw[←view_append]at h2 h3 h4;exact gives_wp (opA_nd ho0) (.inl h1) (hK u w' _ h2 h3 h4)
 |heavy=>
  simp only[hk]at ho;obtain⟨u,w',ρ',h1,h2,h3,h4⟩:=heavyA_run hS ho hs.hr hs.fr;exact gives_wp (opA_nd ho0) h1 (hK u w' ρ' h2 h3 h4)
 |call=>
  simp only[hk]at ho
  cases hop:o.op with
  |call c=>
   obtain⟨callee,args,ats⟩:=c
   cases callee with
   |value g=>
    simp only[callA,hop]at ho;obtain⟨vg,hvg,ho⟩:=R.bind_ok ho
    have hcg:=ev_cr hs.fr hs.hr.glob' hvg
    obtain⟨ug,hug⟩: ∃u,a.eval g=u:=⟨_,rfl⟩;rw[hug]at hcg
    cases hcg with
    | @clo fid first caps fa ca hf1 hc1 vs us g1 g2 g3 g4=>
      simp only at ho;obtain⟨as,has,ho⟩:=R.bind_ok ho
      have hca:=evs_cr hs.fr hs.hr.glob' has
      have hargs:CRs (Forb A ρ (view h)) ρ w (first++args.map a.eval++caps).toList (fa++as++ca):=by
       rw[Array.toList_append,Array.toList_append,Array.toList_map]
       have row: ∀{xs:Array Value} {l:List AV} {q:Nat→Value},xs.size=l.length→(∀(j:Nat) y,l[j]?=some y→xs[j]?=some (q j))→(∀(j:Nat) y,l[j]?=some y→CR (Forb A ρ (view h)) ρ w (q j) y)→CRs (Forb A ρ (view h)) ρ w xs.toList l:=by
        intro xs l q k1 k2 k3;refine⟨by simpa using k1,fun j v y hv hy=>?_⟩;rw[Array.getElem?_toList,k2 j y hy]at hv;cases hv;exact k3 j y hy
       exact((row hf1 g1 g2).append hca).append (row hc1 g3 g4)
      obtain⟨hen,hcalls⟩:(∀W,(callFunc fid (first++args.map a.eval++caps)).run E.P W= .ok (.enter fid (first++args.map a.eval++caps)) W)∧Calls E.P fid (first++args.map a.eval++caps) w fun e w'=> ∃v ρ',e= .returned v∧Ext (Own ρ (view h)) ρ w (Own ρ' (view h')) ρ' w'∧HR E.G A ρ' w' (view h')∧CR (Forb A ρ' (view h')) ρ' w' v y:=by
       split at ho
       ·rename_i r hr
        exact hC _ _ h y h' (by simp only[hr];exact ho) A ρ w _ hs.hr hargs
       ·exact hcall _ _ _ _ _ ho A ρ w _ hs.hr hargs
      have hrun:(execOp a.eval o).run E.P w= .ok (.enter fid (first++args.map a.eval++caps)) w:=by
       unfold execOp;have:=hen w
       rw[Array.append_assoc]at this ⊢
       simp[hop,resolve,hug,Deferred.ofValue,invoke,this]
      refine enters_wp (opA_nd ho0) hrun hcalls ?_
      rintro e w' ⟨v,ρ',rfl,h1,h2,h3⟩;exact⟨v,rfl,hK v w' ρ' h1 h2 h3⟩
    |_=>cases ho
   |builtin b=>simp only[callA,hop]at ho;cases ho
   |invoke r m=>simp only[callA,hop]at ho;cases ho
  |_=>simp only[callA,hop]at ho;cases ho
theorem stepA_wp(hS:Smet E.P E.S)(hC:COK E){call:CallF}(hcall:CallOK E call){f:FuncId}{ops:Array Oper}{τ τ':Fr}{h h':H}{o:Oper}{N:Nat}(ho:stepA E f call N ops τ h o= .ok (τ',h')){A:Area}{ρ:Rho}{w:World}{a:Act}(hs:St E A ρ w a τ (view h) N s0)
  {K:Act→World→Prop} {Q:Exit→Act→World→Prop} (hK: ∀a' w' ρ',Ext (Own ρ (view h)) ρ w (Own ρ' (view h')) ρ' w'→St E A ρ' w' a' τ' (view h') N s0→K a' w'):
  if Region.wanted o (yielded ops a.tmps)=true then o.wpIn (fw rd) nn E.P a w K Q else K (a.put o.dst Go.undef) w:=by
 unfold stepA at ho;split at ho
 ·cases ho
 rename_i hgt;rw[want_eq hs.fr ops o (by simpa using hgt)];split at ho
 ·rename_i hw
  rw[if_pos hw];split at ho
  ·rename_i v h2 hop
   obtain⟨τ2,hp,ho⟩:=R.bind_ok ho;cases ho;exact opA_wp hS hC hcall hop hs (fun v w' ρ' h1 h2 h3=>hK _ _ _ h1 (hs.put h1 h2 h3 hp))
  ·cases ho
 ·rename_i hw
  rw[if_neg hw];obtain⟨τ2,hp,ho⟩:=R.bind_ok ho;cases ho;exact hK _ _ ρ (Ext.refl _ _ _) (hs.put (Ext.refl _ _ _) hs.hr undef_cr hp)
theorem opsA_wp(hS:Smet E.P E.S)(hC:COK E){call:CallF}(hcall:CallOK E call){f:FuncId}{ops:Array Oper}{N:Nat}{A:Area}{Q:Exit→Act→World→Prop}{τ':Fr}{h':H}: ∀(m k:Nat) (τ:Fr) (h:H) (ρ:Rho) (w:World) (a:Act),k+m=ops.size→
  opsA E f call N ops (ops.toList.drop k) τ h= .ok (τ',h')→St E A ρ w a τ (view h) N s0→
  (∀a' w' ρ',Ext (Own ρ (view h)) ρ w (Own ρ' (view h')) ρ' w'→St E A ρ' w' a' τ' (view h') N s0→Q .normal a' w')→wpOpsIn (fw rd) nn E.P ops Q (List.range' k m) a w
 |0,k,τ,h,ρ,w,a,hk,ho,hs,hQ=>by
  rw[List.drop_eq_nil_of_le (by simp;omega)]at ho;cases ho;exact hQ a w ρ (Ext.refl _ _ _) hs
 |m+1,k,τ,h,ρ,w,a,hk,ho,hs,hQ=>by
  have hlt:k<ops.toList.length:=by simp;omega
  rw[List.drop_eq_getElem_cons hlt]at ho;obtain⟨⟨τ1,h1⟩,hst,ho⟩:=R.bind_ok ho;rw[List.range'_succ]
  have hget:ops[k]?=some ops.toList[k]:=by simp[Array.getElem?_eq_getElem (by simpa using hlt:k<ops.size)]
  simp only[wpOpsIn,hget];have:=stepA_wp (rd:=rd) (nn:=nn) (Q:=Q) hS hC hcall hst hs (K:=wpOpsIn (fw rd) nn E.P ops Q (List.range' (k+1) m)) (fun a1 w1 ρ1 hx hs1=>opsA_wp hS hC hcall m (k+1) τ1 h1 ρ1 w1 a1 (by omega) ho hs1 (fun a2 w2 ρ2 hx2 hs2=>hQ a2 w2 ρ2 (hx.trans hx2) hs2));split
  ·rename_i hw
   rw[if_pos hw]at this;exact this
  ·rename_i hw
   rw[if_neg hw]at this;exact⟨fun _ _=>trivial,this⟩
end
end Go.Proofs.YthnajefdiljneaaDoor.AM
namespace Go.Proofs.YthnajefdiljneaaDoor.AM
set_option linter.unusedSectionVars false
set_option linter.unusedVariables false
set_option linter.unusedSimpArgs false
section
variable {E:Env}
theorem ev_congr{τ σ:Fr}{x:Operand}(h: ∀t,x= .tmp t→τ t=σ t):ev E τ x=ev E σ x:=by
 cases x<;>simp only[ev]
 rw[h _ rfl]
theorem evs_congr{τ σ:Fr}: ∀{xs:List Operand},(∀t, .tmp t∈xs→τ t=σ t)→evs E τ xs=evs E σ xs
 | [],h=>rfl
 |x::xs,h=>by
  simp only[evs];rw[ev_congr (τ:=τ) (σ:=σ) (fun t ht=>h t (by simp[ht])),evs_congr (fun t ht=>h t (List.mem_cons_of_mem _ ht))]
theorem evo_congr{τ σ:Fr}{x:Option Operand}(h: ∀t,x=some (.tmp t)→τ t=σ t):evo E τ x=evo E σ x:=by
 cases x with
 |none=>rfl
 |some x=>simp only[evo];rw[ev_congr (fun t ht=>h t (by rw[ht]))]
def Agree(τ σ:Fr)(o:Oper):Prop:= ∀t, .tmp t∈o.op.operands→τ t=σ t
theorem opA_congr{f:FuncId}{call:CallF}{τ σ:Fr}{h:H}{o:Oper}(ha:Agree τ σ o):opA E f call τ h o=opA E f call σ h o:=by
 unfold Agree at ha
 have key:pureA E τ o=pureA E σ o∧(∀h,readA E τ h o=readA E σ h o)∧lightA E τ o=lightA E σ o∧(∀id,allocA E f τ id o=allocA E f σ id o)∧(∀h,heavyA E f τ h o=heavyA E f σ h o)∧(∀h,callA E call τ h o=callA E call σ h o):=by
  have hev: ∀x,x∈o.op.operands→ev E τ x=ev E σ x:=fun x hx=>ev_congr (fun t ht=>ha t (ht▸hx))
  have hevs: ∀xs:List Operand,(∀x,x∈xs→x∈o.op.operands)→evs E τ xs=evs E σ xs:=fun xs hx=>evs_congr (fun t ht=>ha t (hx _ ht))
  have hevo: ∀x:Option Operand,(∀y,x=some y→y∈o.op.operands)→evo E τ x=evo E σ x:=fun x hx=>evo_congr (fun t ht=>ha t (hx _ ht))
  cases ho:o.op<;>rw [ho]at ha hev hevs hevo<;>simp only[Op.operands]at ha hev hevs hevo
  case call c=>
   obtain⟨callee,args,ats⟩:=c;simp only[Call.operands]at ha;have hargs:evs E τ args.toList=evs E σ args.toList:=evs_congr (fun t ht=>ha t (by cases callee<;>simp [Array.mem_toList_iff.1 ht]))
   cases callee with
   |value g=>
    have hg:ev E τ g=ev E σ g:=ev_congr (fun t ht=>ha t (by simp[ht]));simp only[pureA,readA,lightA,allocA,heavyA,callA,ho,hargs,hg,and_self,implies_true]
    cases g<;>simp [hargs]
   |builtin b=>cases b<;>simp only[pureA,readA,lightA,allocA,heavyA,callA,ho,hargs,and_self,implies_true]
   |invoke r m=>simp only[pureA,readA,lightA,allocA,heavyA,callA,ho,and_self,implies_true]
  case move x=>
   have h0_:=hev x (by simp)
   simp only[pureA,readA,lightA,allocA,heavyA,callA,ho,and_self,implies_true,h0_]
  case assign x=>
   have h0_:=hev x (by simp)
   simp only[pureA,readA,lightA,allocA,heavyA,callA,ho,and_self,implies_true,h0_]
  case box t x=>
   have h0_:=hev x (by simp)
   simp only[pureA,readA,lightA,allocA,heavyA,callA,ho,and_self,implies_true,h0_]
  case load t x=>
   have h0_:=hev x (by simp)
   simp only[pureA,readA,lightA,allocA,heavyA,callA,ho,and_self,implies_true,h0_]
  case nilCheck x=>
   have h0_:=hev x (by simp)
   simp only[pureA,readA,lightA,allocA,heavyA,callA,ho,and_self,implies_true,h0_]
  case unOp p t x=>
   have h0_:=hev x (by simp)
   simp only[pureA,readA,lightA,allocA,heavyA,callA,ho,and_self,implies_true,h0_]
  case convert s d x=>
   have h0_:=hev x (by simp)
   simp only[pureA,readA,lightA,allocA,heavyA,callA,ho,and_self,implies_true,h0_]
  case fieldAddr t x f=>
   have h0_:=hev x (by simp)
   simp only[pureA,readA,lightA,allocA,heavyA,callA,ho,and_self,implies_true,h0_]
  case field t x f=>
   have h0_:=hev x (by simp)
   simp only[pureA,readA,lightA,allocA,heavyA,callA,ho,and_self,implies_true,h0_]
  case extract x i=>
   have h0_:=hev x (by simp)
   simp only[pureA,readA,lightA,allocA,heavyA,callA,ho,and_self,implies_true,h0_]
  case pick c a b=>
   have h0_:=hev c (by simp)
   have h1_:=hev a (by simp)
   have h2_:=hev b (by simp)
   simp only[pureA,readA,lightA,allocA,heavyA,callA,ho,and_self,implies_true,h0_,h1_,h2_]
  case store t a v=>
   have h0_:=hev a (by simp)
   have h1_:=hev v (by simp)
   simp only[pureA,readA,lightA,allocA,heavyA,callA,ho,and_self,implies_true,h0_,h1_]
  case makeSlice t a v=>
   have h0_:=hev a (by simp)
   have h1_:=hev v (by simp)
   simp only[pureA,readA,lightA,allocA,heavyA,callA,ho,and_self,implies_true,h0_,h1_]
  case indexAddr t a v=>
   have h0_:=hev a (by simp)
   have h1_:=hev v (by simp)
   simp only[pureA,readA,lightA,allocA,heavyA,callA,ho,and_self,implies_true,h0_,h1_]
  case index t a v=>
   have h0_:=hev a (by simp)
   have h1_:=hev v (by simp)
   simp only[pureA,readA,lightA,allocA,heavyA,callA,ho,and_self,implies_true,h0_,h1_]
  case lookup t a v q=>
   have h0_:=hev a (by simp)
   have h1_:=hev v (by simp)
   simp only[pureA,readA,lightA,allocA,heavyA,callA,ho,and_self,implies_true,h0_,h1_]
  case binOp p t a v u=>
   have h0_:=hev a (by simp)
   have h1_:=hev v (by simp)
   simp only[pureA,readA,lightA,allocA,heavyA,callA,ho,and_self,implies_true,h0_,h1_]
  case mapUpdate t a b v=>
   have h0_:=hev a (by simp)
   have h1_:=hev b (by simp)
   have h2_:=hev v (by simp)
   simp only[pureA,readA,lightA,allocA,heavyA,callA,ho,and_self,implies_true,h0_,h1_,h2_]
  case insert t a b v=>
   have h0_:=hev a (by simp)
   have h1_:=hev b (by simp)
   have h2_:=hev v (by simp)
   simp only[pureA,readA,lightA,allocA,heavyA,callA,ho,and_self,implies_true,h0_,h1_,h2_]
  case build t parts=>
   have h0_:=hevs (parts.toList.map (·.2)) (fun x hx=>by simp at hx ⊢;grind)
   simp only[pureA,readA,lightA,allocA,heavyA,callA,ho,and_self,implies_true,h0_]
  case buildSlice t n parts=>
   have h0_:=hevs (parts.toList.map (·.2)) (fun x hx=>by simp at hx ⊢;grind)
   simp only[pureA,readA,lightA,allocA,heavyA,callA,ho,and_self,implies_true,h0_]
  case makeFunc fn first caps=>
   have h0_:=hevs first.toList (fun x hx=>by simp at hx ⊢;grind)
   have h1_:=hevs caps.toList (fun x hx=>by simp at hx ⊢;grind)
   simp only[pureA,readA,lightA,allocA,heavyA,callA,ho,and_self,implies_true,h0_,h1_]
  case slice t x lo hi mx=>
   have h0_:=hev x (by simp)
   have h1_:=hevo lo (fun x hx=>by subst hx;simp)
   have h2_:=hevo hi (fun x hx=>by subst hx;simp)
   have h3_:=hevo mx (fun x hx=>by subst hx;simp)
   simp only[pureA,readA,lightA,allocA,heavyA,callA,ho,and_self,implies_true,h0_,h1_,h2_,h3_]
  case makeMap t r=>cases r<;>simp only[pureA,readA,lightA,allocA,heavyA,callA,ho,and_self,implies_true]
  all_goals simp only[pureA,readA,lightA,allocA,heavyA,callA,ho,and_self,implies_true]
 unfold opA;obtain⟨h1,h2,h3,h4,h5,h6⟩:=key;rw[h1,h2,h3,h4,h5,h6]
end
end Go.Proofs.YthnajefdiljneaaDoor.AM
namespace Go.Proofs.YthnajefdiljneaaDoor.AM
set_option linter.unusedSectionVars false
set_option linter.unusedVariables false
set_option linter.unusedSimpArgs false
section
variable {E:Env} {f:FuncId} {call:CallF} {N:Nat} {ops:Array Oper}
theorem trace_spec: ∀{os:List Oper} {id:Nat} {τ:Fr} {h:H} {tr:List (Fr×H)} {lt:Fr} {lh:H},traceA E f call N ops os id τ h= .ok (tr,(lt,lh))→
  tr.length=os.length∧frameAt tr lt 0=τ∧heapAt tr lh 0=h∧(∀i o,os[i]?=some o→stepD E f call N ops (id+alsOf E (os.take i)) (frameAt tr lt i) (heapAt tr lh i) o= .ok (frameAt tr lt (i+1),heapAt tr lh (i+1)))
 | [],id,τ,h,tr,lt,lh,ht=>by cases ht;exact⟨rfl,rfl,rfl,fun i o h=>by simp at h⟩
 |o::os,id,τ,h,tr,lt,lh,ht=>by
  obtain⟨⟨τ1,h1⟩,hs,ht⟩:=R.bind_ok ht;obtain⟨⟨l,r⟩,hr,ht⟩:=R.bind_ok ht;cases ht;obtain⟨k1,k2,k3,k4⟩:=trace_spec hr;refine⟨by simp[k1],rfl,rfl,fun i o' ho=>?_⟩
  cases i with
  |zero=>
   simp at ho;subst ho
   have e1:frameAt ((τ,h)::l) lt 1=frameAt l lt 0:=by simp[frameAt]
   have e2:heapAt ((τ,h)::l) lh 1=heapAt l lh 0:=by simp[heapAt]
   show stepD E f call N ops id τ h o= .ok (frameAt ((τ,h)::l) lt 1,heapAt ((τ,h)::l) lh 1);rw[e1,e2,k2,k3];exact hs
  |succ i=>
   have:=k4 i o' (by simpa using ho)
   have he:id+alsOf E ((o::os).take (i+1))=(if isAl E o then id+1 else id)+alsOf E (os.take i):=by
    simp only[alsOf,List.take_succ_cons,List.filter_cons]
    split<;>simp<;>omega
   rw[he]
   simpa [frameAt,heapAt]using this
theorem frameAt_last{tr:List (Fr×H)}{lt:Fr}{n:Nat}(h:tr.length=n):frameAt tr lt n=lt:=by simp[frameAt,←h]
theorem heapAt_last{tr:List (Fr×H)}{lh:H}{n:Nat}(h:tr.length=n):heapAt tr lh n=lh:=by simp[heapAt,←h]
theorem foldl_bits(acc:List Nat)(i:Nat): ∀(es:List Edge) (s:Nat),(es.foldl (fun s e=>if Region.binds .any e then s|||2 ^ e.on|||acc.getD e.on 0 else s) s).testBit i=true→
  s.testBit i=true∨ ∃e∈es,Region.binds .any e=true∧(e.on=i∨(acc.getD e.on 0).testBit i=true)
 | [],s,h=> .inl h
 |e::es,s,h=>by
  rw[List.foldl_cons]at h
  rcases foldl_bits acc i es _ h with h1|⟨e',he,h1⟩
  ·split at h1
   ·rename_i hb
    simp only[Nat.testBit_or,Bool.or_eq_true,Nat.testBit_two_pow,decide_eq_true_eq]at h1
    rcases h1 with(h1|h1)|h1
    ·exact .inl h1
    ·exact .inr ⟨e,List.mem_cons_self ..,hb, .inl h1⟩
    ·exact .inr ⟨e,List.mem_cons_self ..,hb, .inr h1⟩
   ·exact .inl h1
  ·exact .inr ⟨e',List.mem_cons_of_mem _ he,h1⟩
theorem maskOf_bits{acc:List Nat}{o:Oper}{i:Nat}(h:(maskOf acc o).testBit i=true): ∃e∈o.after,Region.binds .any e=true∧(e.on=i∨(acc.getD e.on 0).testBit i=true):=by
 rcases foldl_bits acc i o.after.toList 0 h with h|⟨e,he,h⟩
 ·simp at h
 ·exact⟨e,Array.mem_toList_iff.1 he,h⟩
theorem masks_spec: ∀(os:List Oper) (acc:List Nat),(masksA os acc).length=acc.length+os.length∧(masksA os acc).take acc.length=acc∧
  ∀k o,os[k]?=some o→(masksA os acc)[acc.length+k]?=some (maskOf ((masksA os acc).take (acc.length+k)) o)
 | [],acc=>⟨rfl,by simp[masksA],fun k o h=>by simp at h⟩
 |o::os,acc=>by
  obtain⟨h1,h2,h3⟩:=masks_spec os (acc++ [maskOf acc o]);simp only[List.length_append,List.length_cons,List.length_nil]at h1 h2 h3
  have h4:(masksA (o::os) acc).take acc.length=acc:=by
   have:=congrArg (List.take acc.length) h2;rw[List.take_take,Nat.min_eq_left (by omega)]at this;simp only[masksA];rw[this];simp
  refine⟨by simp only[masksA,List.length_cons];omega,h4,fun k o' ho=>?_⟩
  cases k with
  |zero=>
   simp at ho;subst ho;rw[Nat.add_zero,h4];simp only[masksA]
   have:((masksA os (acc++ [maskOf acc o])).take (acc.length+1))[acc.length]?=some (maskOf acc o):=by rw[h2];simp
   rw[List.getElem?_take,if_pos (by omega)]at this;exact this
  |succ k=>
   have:=h3 k o' (by simpa using ho);simp only[masksA];rw[show acc.length+(k+1)=acc.length+1+k by omega];exact this
theorem opAt_get{i:Nat}(h:i<ops.size):ops[i]?=some (opAt ops i):=by
 simp[opAt,Array.getD_eq_getD_getElem?,Array.getElem?_eq_getElem h]
def Closed(ops:Array Oper)(D:Nat→Prop):Prop:= ∀j,j<ops.size→D j→ ∀e∈(opAt ops j).after,Region.binds .any e=true→D e.on
structure Masked (ops:Array Oper) (ms:List Nat):Prop where
 bit: ∀j,j<ops.size→ ∀i,(ms.getD j 0).testBit i=true→ ∃e∈(opAt ops j).after,Region.binds .any e=true∧e.on<j∧(e.on=i∨(ms.getD e.on 0).testBit i=true)
 low: ∀j,j<ops.size→ ∀e∈(opAt ops j).after,Region.binds .any e=true→e.on<j
theorem masked_of(h4: ∀j,j<ops.size→ ∀e∈(opAt ops j).after,Region.binds .any e=true→e.on<j):Masked ops (masksA ops.toList []):=by
 refine⟨fun j hj i hb=>?_,h4⟩;obtain⟨h1,h2,h3⟩:=masks_spec ops.toList []
 have h5:=h3 j (opAt ops j) (by rw[Array.getElem?_toList];exact opAt_get hj)
 simp only[List.length_nil,Nat.zero_add]at h5
 have hg:(masksA ops.toList []).getD j 0=maskOf ((masksA ops.toList []).take j) (opAt ops j):=by rw[List.getD_eq_getElem?_getD,h5];rfl
 rw[hg]at hb;obtain⟨e,he,hbi,hcase⟩:=maskOf_bits hb
 have hlt:=h4 j hj e he hbi
 refine⟨e,he,hbi,hlt,hcase.imp id fun h=>?_⟩;rw[List.getD_eq_getElem?_getD,List.getElem?_take,if_pos hlt,←List.getD_eq_getElem?_getD]at h;exact h
theorem Masked.closed{ms:List Nat}(hm:Masked ops ms){D:Nat→Prop}(hc:Closed ops D): ∀j,j<ops.size→D j→ ∀i,(ms.getD j 0).testBit i=true→D i:=by
 intro j
 induction j using Nat.strongRecOn with
 |_ j ih=>
  intro hj hd i hb;obtain⟨e,he,hbi,hlt,hcase⟩:=hm.bit j hj i hb;have:=hc j hj hd e he hbi
  rcases hcase with rfl|h
  ·exact this
  ·exact ih e.on hlt (by omega) this i h
theorem Masked.ready{ms:List Nat}(hm:Masked ops ms){D:Nat→Prop}(hc:Closed ops D){j:Nat}(hj:j<ops.size)(hr: ∀e∈(opAt ops j).after,Region.binds .any e=true→D e.on){i:Nat}(hb:(ms.getD j 0).testBit i=true):D i:=by
 obtain⟨e,he,hbi,hlt,hcase⟩:=hm.bit j hj i hb
 rcases hcase with rfl|h
 ·exact hr e he hbi
 ·exact hm.closed hc e.on (by omega) (hr e he hbi) i h
def mentions(ops:Array Oper)(o:Oper)(t:Tmp):Prop:=t∈o.looksAt ops∨o.dst=some t
structure DrawOk (E:Env) (ops:Array Oper) (ms:List Nat):Prop where
 msk:Masked ops ms
 oo: ∀i j,i<j→j<ops.size→isO E (opAt ops i)=true→isO E (opAt ops j)=true→isAl E (opAt ops j)=false→(ms.getD j 0).testBit i=true
 tt: ∀i j t,i<j→j<ops.size→((opAt ops i).dst=some t∧mentions ops (opAt ops j) t∨(opAt ops j).dst=some t∧mentions ops (opAt ops i) t)→(ms.getD j 0).testBit i=true
theorem drawS_ok(h:drawS E ops (masksA ops.toList [])=true):DrawOk E ops (masksA ops.toList []):=by
 have key: ∀j,j<ops.size→((opAt ops j).after.toList.all fun e=>!Region.binds .any e||decide (e.on<j))=true∧
   ∀i,i<j→(((masksA ops.toList []).getD j 0).testBit i||(freeB E (opAt ops i) (opAt ops j)&&apartB ops (opAt ops i) (opAt ops j)))=true:=by
  intro j hj;have:=List.all_eq_true.1 h j (List.mem_range.2 hj);rw[Bool.and_eq_true]at this;exact⟨this.1,fun i hi=>List.all_eq_true.1 this.2 i (List.mem_range.2 hi)⟩
 refine⟨masked_of fun j hj e he hb=>?_,fun i j hij hj hi ho hal=>?_,fun i j t hij hj hc=>?_⟩
 ·have:=List.all_eq_true.1 (key j hj).1 e (Array.mem_toList_iff.2 he)
  simpa [hb]using this
 ·have:=(key j hj).2 i hij
  rw[freeB,hi,ho,hal]at this
  simpa using this
 ·have:=(key j hj).2 i hij
  rw[Bool.or_eq_true,Bool.and_eq_true]at this
  rcases this with h1|⟨_,h1⟩
  ·exact h1
  ·exfalso
   rw[apartB,Bool.and_eq_true]at h1
   rcases hc with⟨hd,hm⟩|⟨hd,hm⟩
   ·have h2:=h1.1
    rw[hd]at h2;simp only[Bool.and_eq_true,Bool.not_eq_true',bne_iff_ne,ne_eq]at h2
    rcases hm with hm|hm
    ·have:=List.contains_iff_mem.2 hm;rw[h2.1]at this;cases this
    ·exact h2.2 hm
   ·rcases hm with hm|hm
    ·have h2:=h1.2
     rw[hd]at h2;simp only[Bool.not_eq_true']at h2;have:=List.contains_iff_mem.2 hm;rw[h2]at this;cases this
    ·have h2:=h1.1
     rw[hm]at h2;simp only[Bool.and_eq_true,Bool.not_eq_true',bne_iff_ne,ne_eq]at h2;exact h2.2 hd
theorem bytes_eq{a b:ByteArray}(h:(a==b)=true):a=b:=by
 rw[beq_toListBytes]at h;have:=eq_of_beq h;rw[ByteArray.toList_eq,ByteArray.toList_eq]at this;obtain⟨⟨x⟩⟩:=a;obtain⟨⟨y⟩⟩:=b;simp at this;rw[this]
theorem sames_eq: ∀l:List AV,(∀x,x∈l→ ∀y,same x y=true→x=y)→ ∀l',sames l l'=true→l=l'
 | [],_,l',h=>by cases l'<;>simp [sames]at h;rfl
 |x::xs,ih,l',h=>by
  cases l' with
  |nil=>simp [sames]at h
  |cons y ys=>
   simp only[sames,Bool.and_eq_true]at h;rw[ih x (List.mem_cons_self ..) y h.1,sames_eq xs (fun z hz=>ih z (List.mem_cons_of_mem _ hz)) ys h.2]
theorem same_eq(x:AV): ∀y,same x y=true→x=y:=by
 refine AV.rec (motive_1:=fun x=> ∀y,same x y=true→x=y) (motive_2:=fun l=> ∀l',sames l l'=true→l=l') ?_ ?_ ?_ ?_ ?_ ?_ ?_ ?_ ?_ ?_ ?_ ?_ ?_ ?_ ?_ ?_ ?_ ?_ ?_ ?_ ?_ x
 all_goals intros
 all_goals first
  |(rename_i y h;cases y<;>simp [same]at h<;>simp_all;done)
  |skip
 ·rename_i l o ih y h;cases y<;>simp [same]at h;rw[ih _ h.1,h.2]
 ·rename_i s l t ih y h;cases y<;>simp [same]at h;rw[h.1.1,ih _ h.1.2,h.2]
 ·rename_i s l ih y h;cases y<;>simp [same]at h;rw[h.1,ih _ h.2]
 ·rename_i g l m ih1 ih2 y h;cases y<;>simp [same]at h;rw[h.1.1,ih1 _ h.1.2,ih2 _ h.2]
 ·rename_i l ih y h;cases y<;>simp [same]at h;rw[ih _ h]
 ·rename_i l ih y h;cases y<;>simp [same]at h;rw[ih _ h]
 ·rename_i l' h;cases l'<;>simp [sames]at h;rfl
 ·rename_i x xs h1 h2 l' h
  cases l' with
  |nil=>simp [sames]at h
  |cons y ys=>simp only[sames,Bool.and_eq_true]at h;rw[h1 _ h.1,h2 _ h.2]
theorem sames_eq'{l l':List AV}(h:sames l l'=true):l=l':=sames_eq l (fun x _=>same_eq x) l' h
theorem samePairs_eq: ∀{l l':List (AV×AV)},samePairs l l'=true→l=l'
 | [],[],h=>rfl
 |x::xs,y::ys,h=>by
  simp only[samePairs,Bool.and_eq_true]at h;rw[Prod.ext (same_eq _ _ h.1.1) (same_eq _ _ h.1.2),samePairs_eq h.2]
 | [],_::_,h=>by simp[samePairs]at h
 |_::_,[],h=>by simp[samePairs]at h
theorem sameBlk_eq{x y:Option Blk}(h:sameBlk x y=true):x=y:=by
 unfold sameBlk at h;split at h
 ·rfl
 ·rw[sames_eq' h]
 ·simp only[Bool.and_eq_true,decide_eq_true_eq]at h;rw[h.1,sames_eq' h.2]
 ·rw[samePairs_eq h]
 ·rfl
 ·rfl
 ·rfl
 ·cases h
end
end Go.Proofs.YthnajefdiljneaaDoor.AM
namespace Go.Proofs.YthnajefdiljneaaDoor.AM
set_option linter.unusedSectionVars false
set_option linter.unusedVariables false
set_option linter.unusedSimpArgs false
section
variable {E:Env} {s0 nn:Nat} {rd:Option Nat} {f:FuncId} {call:CallF} {N:Nat} {ops:Array Oper}
theorem quiet_wp(hS:Smet E.P E.S)(hC:COK E){τ:Fr}{h h':H}{o:Oper}{y:AV}(ho:opA E f call τ h o= .ok (y,h'))(hk:isO E o=false){A:Area}{ρ:Rho}{w:World}{a:Act}{hp:H}(hr:HR E.G A ρ w (view hp))(hf:FRel (Forb A ρ (view hp)) ρ w a.tmps τ)
  (hd:kindOf E o.op= .read→ ∀b,readDep E τ o=some b→hp[b]?=h[b]?) {K:Act→World→Prop} {Q:Exit→Act→World→Prop}
  (hK:h'=h→ ∀v w' ρ',Ext (Own ρ (view hp)) ρ w (Own ρ' (view hp)) ρ' w'→HR E.G A ρ' w' (view hp)→CR (Forb A ρ' (view hp)) ρ' w' v y→K (a.put o.dst v) w'):o.wpIn (fw rd) nn E.P a w K Q:=by
 have ho0:=ho
 unfold opA at ho
 cases hkk:kindOf E o.op with
 |pure=>
  simp only[hkk]at ho;obtain⟨v,hv,ho⟩:=R.bind_ok ho;cases ho;obtain⟨u,hu,hc⟩:=pureA_run hS hf hr.glob' hv hkk;exact gives_wp (opA_nd ho0) (.inl hu) (hK rfl u w ρ (Ext.refl _ _ _) hr hc)
 |read=>
  simp only[hkk]at ho;obtain⟨v,hv,ho⟩:=R.bind_ok ho;cases ho;obtain⟨u,hu,hc⟩:=readA_run hS hr hf hv (fun b hb=>hd hkk b hb);exact gives_wp (opA_nd ho0) (.inl hu) (hK rfl u w ρ (Ext.refl _ _ _) hr hc)
 |light=>
  simp only[hkk]at ho;obtain⟨v,hv,ho⟩:=R.bind_ok ho;cases ho
  cases hop:o.op with
  |call c=>
   obtain⟨callee,args,ats⟩:=c
   cases callee with
   |value g=>
    cases g with
    |func g=>
     simp only[lightA,hop]at hv;obtain⟨as,has,hv⟩:=R.bind_ok hv
     have hca:=evs_cr hf hr.glob' has
     split at hv
     ·rename_i r hrr
      split at hv
      ·rename_i hnf
       cases hv
       have hargs:CRs (Forb A ρ (view hp)) ρ w (args.map a.eval).toList as:=by rw[Array.toList_map];exact hca
       obtain⟨hen,hcalls⟩:=hC g as hp y hp (by simp only[hrr,noF_thaw y hnf hp]) A ρ w _ hr hargs
       have hrun:(execOp a.eval o).run E.P w= .ok (.enter g (args.map a.eval)) w:=by
        unfold execOp;have:=hen w;simp[hop,resolve,Act.eval,Deferred.ofValue,invoke,this]
       refine enters_wp (opA_nd ho0) hrun hcalls ?_
       rintro e w' ⟨v,ρ',rfl,h1,h2,h3⟩;exact⟨v,rfl,hK rfl v w' ρ' h1 h2 h3⟩
      ·cases hv
     ·cases hv
    |_=>simp only[lightA,hop]at hv;cases hv
   |builtin b=>simp only[lightA,hop]at hv;cases hv
   |invoke r m=>simp only[lightA,hop]at hv;cases hv
  |_=>simp only[lightA,hop]at hv;cases hv
 |alloc=>simp [isO,hkk]at hk
 |heavy=>simp [isO,hkk]at hk
 |call=>simp [isO,hkk]at hk
theorem putA_other{τ τ':Fr}{dst:Option Nat}{v:AV}(h:putA N τ dst v= .ok τ'){t:Nat}(ht:dst≠some t):τ' t=τ t:=by
 cases dst with
 |none=>cases h;rfl
 |some d=>
  simp only[putA_some]at h
  split at h<;>cases h
  simp only[upd_eq];rw[if_neg];intro e;exact ht (by rw[e])
theorem stepA_other{E:Env}{f:FuncId}{call:CallF}{N:Nat}{ops:Array Oper}{τ τ':Fr}{g g':H}{o:Oper}(h:stepA E f call N ops τ g o= .ok (τ',g')){t:Nat}(ht:o.dst≠some t):τ' t=τ t:=by
 unfold stepA at h;split at h
 ·cases h
 ·split at h
  ·split at h
   ·obtain⟨a,h1,h2⟩:=R.bind_ok h
    cases h2;exact putA_other h1 ht
   ·cases h
  ·obtain⟨a,h1,h2⟩:=R.bind_ok h
   cases h2;exact putA_other h1 ht
theorem opsA_other{E:Env}{f:FuncId}{call:CallF}{N:Nat}{ops:Array Oper}{τ':Fr}{g':H}{t:Nat}: ∀{l:List Oper} {τ:Fr} {g:H},opsA E f call N ops l τ g= .ok (τ',g')→(∀o,o∈l→o.dst≠some t)→τ' t=τ t:=by
 intro l
 induction l with
 |nil=>intro τ g h _;cases h;rfl
 |cons o l ih=>
  intro τ g h ht;simp only[opsA]at h;obtain⟨⟨τ1,g1⟩,h1,h2⟩:=R.bind_ok h;exact(ih h2 fun x hx=>ht x (List.mem_cons_of_mem _ hx)).trans (stepA_other h1 (ht o (List.mem_cons_self ..)))
theorem stepD_other{E:Env}{f:FuncId}{call:CallF}{N:Nat}{ops:Array Oper}{id:Nat}{τ τ':Fr}{g g':H}{o:Oper}(h:stepD E f call N ops id τ g o= .ok (τ',g')){t:Nat}(ht:o.dst≠some t):τ' t=τ t:=by
 unfold stepD at h;split at h
 ·split at h
  ·cases h
  ·split at h
   ·split at h
    ·split at h
     ·obtain⟨a,h1,h2⟩:=R.bind_ok h
      cases h2;exact putA_other h1 ht
     ·cases h
    ·cases h
   ·obtain⟨a,h1,h2⟩:=R.bind_ok h
    cases h2;exact putA_other h1 ht
 ·exact stepA_other h ht
theorem traceA_other{E:Env}{f:FuncId}{call:CallF}{N:Nat}{ops:Array Oper}{tr:List (Fr×H)}{τ':Fr}{g':H}{t:Nat}: ∀{l:List Oper} {id:Nat} {τ:Fr} {g:H} {tr:List (Fr×H)},traceA E f call N ops l id τ g= .ok (tr,(τ',g'))→(∀o,o∈l→o.dst≠some t)→τ' t=τ t:=by
 intro l
 induction l with
 |nil=>intro id τ g tr h _;cases h;rfl
 |cons o l ih=>
  intro id τ g tr h ht;simp only[traceA]at h;obtain⟨⟨τ1,g1⟩,h1,h2⟩:=R.bind_ok h;obtain⟨⟨tr1,r⟩,h3,h4⟩:=R.bind_ok h2;cases h4;exact(ih h3 fun x hx=>ht x (List.mem_cons_of_mem _ hx)).trans (stepD_other h1 (ht o (List.mem_cons_self ..)))
theorem regionA_other{E:Env}{f:FuncId}{call:CallF}{N:Nat}{ops:Array Oper}{draw:Bool}{τ τ':Fr}{g g':H}(h:regionA E f call N ops draw τ g= .ok (τ',g')){t:Nat}(ht: ∀o,o∈ops.toList→o.dst≠some t):τ' t=τ t:=by
 cases draw with
 |false=>exact opsA_other h ht
 |true=>
  simp only[regionA]at h;obtain⟨⟨tr,τ1,g1⟩,h1,h2⟩:=R.bind_ok h;have h3:=traceA_other (tr:=tr) h1 ht;simp only at h2;split at h2
  ·split at h2
   ·split at h2
    ·split at h2
     ·cases h2;exact h3
     ·cases h2
    ·cases h2
   ·cases h2
  ·cases h2
theorem lo_le{l:List Oper}{o:Oper}{d:Nat}(ho:o∈l)(hd:o.dst=some d):l.foldr (fun o m=>match o.dst with
 |some d=>min d m
 |none=>m) 1000000000≤d∧d≤l.foldr (fun o m=>match o.dst with
 |some d=>max d m
 |none=>m) 0:=by
 induction l with
 |nil=>cases ho
 |cons a l ih=>
  simp only[List.foldr_cons]
  rcases List.mem_cons.1 ho with rfl|h
  ·rw[hd];exact⟨Nat.min_le_left _ _,Nat.le_max_left _ _⟩
  ·obtain⟨h1,h2⟩:=ih h
   cases a.dst with
   |none=>exact⟨h1,h2⟩
   |some e=>exact⟨Nat.le_trans (Nat.min_le_right _ _) h1,Nat.le_trans h2 (Nat.le_max_right _ _)⟩
theorem regionP_eq(E:Env)(f:FuncId)(call:CallF)(N:Nat)(ops:Array Oper)(draw:Bool)(τ:Fr)(g:H):regionP E f call N ops draw τ g=regionA E f call N ops draw τ g:=by
 unfold regionP
 cases h:regionA E f call N ops draw τ g with
 |no s=>rfl
 |ok p=>
  obtain⟨τ',g'⟩:=p
  have hp:packF ops τ τ'=τ':=by
   funext i
   have out:(¬(loOf ops≤i∧i≤hiOf ops))→τ' i=τ i:=fun hn=>regionA_other h fun o ho hd=>hn (lo_le ho hd)
   unfold packF
   cases h1:Nat.ble (loOf ops) i with
   |false=>exact(out fun hh=>by rw[Nat.ble_eq_true_of_le hh.1]at h1;cases h1).symm
   |true=>cases h2:Nat.ble i (hiOf ops)with
    |false=>exact(out fun hh=>by rw[Nat.ble_eq_true_of_le hh.2]at h2;cases h2).symm
    |true=>rfl
  show R.ok (packF ops τ τ',g')=R.ok (τ',g');rw[hp]
theorem putA_self{τ τ':Fr}{t:Nat}{v:AV}(h:putA N τ (some t) v= .ok τ'):τ' t=v∧t<N:=by
 simp only[putA_some]at h
 split at h<;>cases h
 rename_i hlt;exact⟨by simp[upd_eq],hlt⟩
theorem wantA_congr{τ σ:Fr}{o:Oper}(h: ∀t,t∈o.looksAt ops→τ t=σ t):wantA ops τ o=wantA ops σ o:=by
 unfold wantA
 cases hg:o.guard with
 |none=>rfl
 |some p=>
  obtain⟨j,want⟩:=p;simp only
  cases hd:(ops[j]?).bind (·.dst)with
  |none=>rfl
  |some d=>
   simp only;rw[h d (by simp[Oper.looksAt,hg,hd])]
theorem gtop_congr{τ σ:Fr}{o:Oper}(h: ∀t,t∈o.looksAt ops→τ t=σ t):gtop ops τ o=gtop ops σ o:=by
 unfold gtop
 cases hg:o.guard with
 |none=>rfl
 |some p=>
  obtain⟨j,want⟩:=p;simp only
  cases hd:(ops[j]?).bind (·.dst)with
  |none=>rfl
  |some d=>
   simp only;rw[h d (by simp[Oper.looksAt,hg,hd])]
theorem agree_of{τ σ:Fr}{o:Oper}(h: ∀t,t∈o.looksAt ops→τ t=σ t):Agree τ σ o:=fun t ht=>h t (by
 unfold Oper.looksAt
 refine List.mem_append_left _ (List.mem_filterMap.2 ⟨.tmp t,Array.mem_toList_iff.2 ht,rfl⟩))
theorem stepA_inv{τ τ':Fr}{h h':H}{o:Oper}(hs:stepA E f call N ops τ h o= .ok (τ',h')):
  (wantA ops τ o=true∧ ∃v,opA E f call τ h o= .ok (v,h')∧putA N τ o.dst v= .ok τ')∨(wantA ops τ o=false∧h'=h∧putA N τ o.dst undef= .ok τ'):=by
 unfold stepA at hs;split at hs
 ·cases hs
 split at hs
 ·rename_i hw
  split at hs
  ·rename_i v h2 hop
   obtain⟨τ2,hp,hs⟩:=R.bind_ok hs;cases hs;exact .inl ⟨hw,v,hop,hp⟩
  ·cases hs
 ·rename_i hw
  obtain⟨τ2,hp,hs⟩:=R.bind_ok hs;cases hs;exact .inr ⟨by simpa using hw,rfl,hp⟩
theorem stepA_quiet{τ τ':Fr}{h h':H}{o:Oper}(hs:stepA E f call N ops τ h o= .ok (τ',h'))(hk:isO E o=false):h'=h:=by
 rcases stepA_inv hs with⟨_,v,hop,_⟩|⟨_,rfl,_⟩
 ·unfold opA at hop
  cases hkk:kindOf E o.op<;>simp only[hkk]at hop<;>first|(simp[isO,hkk]at hk;done)|(obtain⟨u,_,hop⟩:=R.bind_ok hop;cases hop;rfl)
 ·rfl
theorem read_wp(hS:Smet E.P E.S){τ:Fr}{h:H}{o:Oper}{y:AV}(ho:readA E τ h o= .ok y){A:Area}{ρ:Rho}{w:World}{a:Act}{hp:H}(hr:HR E.G A ρ w (view hp))(hf:FRel (Forb A ρ (view hp)) ρ w a.tmps τ)
  (hd: ∀b,readDep E τ o=some b→hp[b]?=h[b]?) {K:Act→World→Prop} {Q:Exit→Act→World→Prop}
  (hK: ∀v,CR (Forb A ρ (view hp)) ρ w v y→K (a.put o.dst v) w):o.wpIn (fw rd) nn E.P a w K Q:=by
 obtain⟨u,hu,hc⟩:=readA_run hS hr hf ho (fun b hb=>hd b hb);refine gives_wp (fun c hc=>?_) (.inl hu) (hK u hc);simp[readA,hc]at ho
theorem isAl_isO{o:Oper}(h:isAl E o=true):isO E o=true:=by
 unfold isAl at h;unfold isO
 cases hk:kindOf E o.op<;>simp [hk]at h ⊢
theorem isO_isAl{o:Oper}(h:isO E o=false):isAl E o=false:=by
 cases ha:isAl E o
 ·rfl
 ·rw[isAl_isO ha]at h;cases h
theorem isAl_kind{o:Oper}(h:isAl E o=true):kindOf E o.op= .alloc:=by
 unfold isAl at h
 cases hk:kindOf E o.op<;>simp [hk]at h ⊢
theorem stepD_al{id:Nat}{τ τ':Fr}{h h':H}{o:Oper}(hs:stepD E f call N ops id τ h o= .ok (τ',h'))(ha:isAl E o=true):
  (wantA ops τ o=true∧h[id]?=some .hole∧ ∃v b,allocA E f τ id o= .ok (v,b)∧h'=h.set id b∧putA N τ o.dst v= .ok τ')∨(wantA ops τ o=false∧h'=h∧putA N τ o.dst undef= .ok τ'):=by
 unfold stepD at hs;rw[if_pos ha]at hs;split at hs
 ·cases hs
 split at hs
 ·rename_i hw
  split at hs
  ·rename_i hh
   split at hs
   ·rename_i v b hal
    obtain⟨τ2,hp,hs⟩:=R.bind_ok hs;cases hs;exact .inl ⟨hw,hh,v,b,hal,rfl,hp⟩
   ·cases hs
  ·cases hs
 ·rename_i hw
  obtain⟨τ2,hp,hs⟩:=R.bind_ok hs;cases hs;exact .inr ⟨by simpa using hw,rfl,hp⟩
theorem stepD_ot{id:Nat}{τ τ':Fr}{h h':H}{o:Oper}(hs:stepD E f call N ops id τ h o= .ok (τ',h'))(ha:isAl E o=false):stepA E f call N ops τ h o= .ok (τ',h'):=by
 unfold stepD at hs
 simpa [ha]using hs
theorem stepD_gtop{id:Nat}{τ τ':Fr}{h h':H}{o:Oper}(hs:stepD E f call N ops id τ h o= .ok (τ',h')):gtop ops τ o=false:=by
 unfold stepD at hs;split at hs
 ·split at hs
  ·cases hs
  ·rename_i h1;simpa using h1
 ·unfold stepA at hs
  split at hs
  ·cases hs
  ·rename_i h1;simpa using h1
theorem stepD_put{id:Nat}{τ τ':Fr}{h h':H}{o:Oper}(hs:stepD E f call N ops id τ h o= .ok (τ',h')): ∃y,putA N τ o.dst y= .ok τ':=by
 cases ha:isAl E o
 ·rcases stepA_inv (stepD_ot hs ha)with⟨_,v,_,hp⟩|⟨_,_,hp⟩<;>exact⟨_,hp⟩
 ·rcases stepD_al hs ha with⟨_,_,v,b,_,_,hp⟩|⟨_,_,hp⟩<;>exact⟨_,hp⟩
theorem alsOf_succ{i:Nat}(hi:i<ops.size):alsOf E (ops.toList.take (i+1))=alsOf E (ops.toList.take i)+(if isAl E (opAt ops i)then 1 else 0):=by
 have hg:ops.toList[i]?=some (opAt ops i):=by rw[Array.getElem?_toList];exact opAt_get hi
 have hl:i<ops.toList.length:=by simpa using hi
 rw[List.take_succ_eq_append_getElem hl]
 have he:ops.toList[i]=opAt ops i:=by rw[List.getElem?_eq_getElem hl]at hg;exact Option.some.inj hg
 rw[he];simp only[alsOf,List.filter_append,List.length_append,List.filter_cons,List.filter_nil]
 split<;>simp
theorem alsOf_mono{i j:Nat}(hij:i≤j)(hj:j≤ops.size):alsOf E (ops.toList.take i)≤alsOf E (ops.toList.take j):=by
 induction j with
 |zero=>obtain rfl:i=0:=by omega
        exact Nat.le_refl _
 |succ j ih=>
  by_cases h:i=j+1
  ·rw[h];exact Nat.le_refl _
  ·rw[alsOf_succ (by omega)];have:=ih (by omega) (by omega);omega
theorem idAt_lt{base i j:Nat}(hij:i<j)(hj:j<ops.size)(ha:isAl E (opAt ops i)=true):idAt E ops base i<idAt E ops base j:=by
 have h1:=alsOf_mono (E:=E) (ops:=ops) (show i+1≤j by omega) (by omega);rw[alsOf_succ (by omega),ha]at h1;unfold idAt;simp at h1;omega
theorem idAt_ne{base i j:Nat}(hij:i≠j)(hi:i<ops.size)(hj:j<ops.size)(ha:isAl E (opAt ops i)=true)(hb:isAl E (opAt ops j)=true):idAt E ops base i≠idAt E ops base j:=by
 rcases Nat.lt_or_ge i j with h|h
 ·exact Nat.ne_of_lt (idAt_lt h hj ha)
 ·exact Nat.ne_of_gt (idAt_lt (by omega) hi hb)
section region
variable {T:Nat→Fr} {Hh:Nat→H} {ms:List Nat} {base:Nat}
structure Run (E:Env) (f:FuncId) (call:CallF) (N:Nat) (ops:Array Oper) (base:Nat) (T:Nat→Fr) (Hh:Nat→H):Prop where
 step: ∀i,i<ops.size→stepD E f call N ops (idAt E ops base i) (T i) (Hh i) (opAt ops i)= .ok (T (i+1),Hh (i+1))
 kept: ∀i m,i<ops.size→isAl E (opAt ops i)=true→m≤i→(Hh m)[idAt E ops base i]?=some .hole
theorem Run.slot(hR:Run E f call N ops base T Hh){t:Nat}: ∀{p q:Nat},p≤q→q≤ops.size→(∀i,p≤i→i<q→(opAt ops i).dst≠some t)→T p t=T q t:=by
 intro p q
 induction q with
 |zero=>intro h _ _;obtain rfl:p=0:=by omega
        rfl
 |succ q ih=>
  intro h hq hk
  by_cases hpq:p=q+1
  ·rw[hpq]
  ·rw[ih (by omega) (by omega) (fun i h1 h2=>hk i h1 (by omega))]
   obtain⟨y,hp⟩:=stepD_put (hR.step q (by omega));exact(putA_other hp (hk q (by omega) (by omega))).symm
theorem Run.quiet(hR:Run E f call N ops base T Hh){q:Nat}(hq:q<ops.size)(ho:isO E (opAt ops q)=false):Hh (q+1)=Hh q:=
 stepA_quiet (stepD_ot (hR.step q hq) (isO_isAl ho)) ho
theorem Run.other(hR:Run E f call N ops base T Hh){q b:Nat}(hq:q<ops.size)(ha:isAl E (opAt ops q)=true)(hb:b≠idAt E ops base q):(Hh q)[b]?=(Hh (q+1))[b]?:=by
 rcases stepD_al (hR.step q hq) ha with⟨_,_,v,x,_,he,_⟩|⟨_,he,_⟩
 ·rw[he,List.getElem?_set_ne (fun h=>hb h.symm)]
 ·rw[he]
def Done(listed:Array Bool)(i:Nat):Prop:=listed[i]?=some true
def Early(E:Env)(ops:Array Oper)(T:Nat→Fr)(listed:Array Bool)(p i:Nat):Prop:=
 p≤i∧i<ops.size∧isAl E (opAt ops i)=true∧Done listed i∧wantA ops (T i) (opAt ops i)=true
def EA(E:Env)(ops:Array Oper)(base:Nat)(D:Nat→Prop)(ρ:Rho):Area:=fun B off=> ∃i k,D i∧ρ (idAt E ops base i)=some (B,k)∧k≤off
def Plus(A X:Area):Area:=fun B off=>A B off∨X B off
structure Inv (E:Env) (f:FuncId) (N s0:Nat) (ops:Array Oper) (base:Nat) (T:Nat→Fr) (Hh:Nat→H) (A:Area) (listed:Array Bool) (ρ0:Rho) (w0:World) (ρ:Rho) (w:World) (a:Act) (p:Nat):Prop where
 size:listed.size=ops.size
 closed:Closed ops (Done listed)
 le:p≤ops.size
 chain: ∀i,i<ops.size→isO E (opAt ops i)=true→isAl E (opAt ops i)=false→(Done listed i↔i<p)
 als: ∀i,i<p→isAl E (opAt ops i)=true→Done listed i
 hr:HR E.G (Plus A (EA E ops base (Early E ops T listed p) ρ)) ρ w (view (Hh p))
 nyet: ∀i,p≤i→i<ops.size→isAl E (opAt ops i)=true→ ¬Early E ops T listed p i→ρ (idAt E ops base i)=none
 early: ∀i,Early E ops T listed p i→ ∃B k v x,ρ (idAt E ops base i)=some (B,k)∧allocA E f (T i) (idAt E ops base i) (opAt ops i)= .ok (v,x)∧x.alive=true∧B<w.heap.size∧
  BR (Forb (Plus A (EA E ops base (Early E ops T listed p) ρ)) ρ (view (Hh p))) ρ w B k x∧ ∀off,¬A B off
 sep: ∀i b B k k1,Early E ops T listed p i→ρ (idAt E ops base i)=some (B,k)→ρ b=some (B,k1)→b=idAt E ops base i
 ext:Ext (Own ρ0 (view (Hh 0))) ρ0 w0 (Plus (Own ρ (view (Hh p))) (EA E ops base (Early E ops T listed p) ρ)) ρ w
 slots: ∀t q,q≤ops.size→(∀i,i<q→(opAt ops i).dst=some t→Done listed i)→(∀i,q≤i→i<ops.size→(opAt ops i).dst=some t→ ¬Done listed i)→
  TR (Forb (Plus A (EA E ops base (Early E ops T listed p) ρ)) ρ (view (Hh p))) ρ w (a.tmps.getD t Go.undef) (T q t)
 sz:a.tmps.size=N
 de:DeOK s0 a.defers w (Plus (Own ρ (view (Hh p))) (EA E ops base (Early E ops T listed p) ρ))
theorem done_set{listed:Array Bool}{j:Nat}(hj:j<listed.size)(i:Nat):Done (listed.setIfInBounds j true) i↔i=j∨Done listed i:=by
 unfold Done
 by_cases h:j=i
 ·subst h;simp[Array.getElem?_setIfInBounds_self_of_lt hj]
 ·rw[Array.getElem?_setIfInBounds_ne h]
  constructor
  ·exact .inr
  ·rintro(h'|h')
   ·exact absurd h'.symm h
   ·exact h'
theorem Inv.least{A:Area}{listed:Array Bool}{ρ0 ρ:Rho}{w0 w:World}{a:Act}{p:Nat}(hI:Inv E f N s0 ops base T Hh A listed ρ0 w0 ρ w a p)(hD:DrawOk E ops ms)(t:Nat):
  ∃q,q≤ops.size∧(∀i,i<q→(opAt ops i).dst=some t→Done listed i)∧(∀i,q≤i→i<ops.size→(opAt ops i).dst=some t→ ¬Done listed i):=by
 by_cases hex: ∃k,k<ops.size∧(opAt ops k).dst=some t∧ ¬Done listed k
 ·obtain⟨k,⟨hk1,hk2,hk3⟩,hmin⟩: ∃k,(k<ops.size∧(opAt ops k).dst=some t∧ ¬Done listed k)∧ ∀i,i<k→ ¬(i<ops.size∧(opAt ops i).dst=some t∧ ¬Done listed i):=by
   obtain⟨k,hk⟩:=hex
   induction k using Nat.strongRecOn with
   |_ k ih=>
    by_cases hlt: ∃i,i<k∧(i<ops.size∧(opAt ops i).dst=some t∧ ¬Done listed i)
    ·obtain⟨i,hi,h⟩:=hlt;exact ih i hi h
    ·exact⟨k,hk,fun i hi h=>hlt ⟨i,hi,h⟩⟩
  refine⟨k,by omega,fun i hi hd=>?_,fun i hi hn hd hdone=>?_⟩
  ·exact Classical.byContradiction fun hnd=>hmin i hi ⟨by omega,hd,hnd⟩
  ·rcases Nat.lt_or_ge k i with hlt|hge
   ·exact hk3 (hD.msk.closed hI.closed i hn hdone k (hD.tt k i t hlt hn (.inl ⟨hk2, .inr hd⟩)))
   ·obtain rfl:i=k:=by omega
    exact hk3 hdone
 ·exact⟨ops.size,Nat.le_refl _,fun i hi hd=>Classical.byContradiction fun hnd=>hex ⟨i,hi,hd,hnd⟩,fun i h1 h2=>by omega⟩
theorem mem_ready{listed:Array Bool}(hsz:listed.size=ops.size){j:Nat}(h:j∈Region.ready .any ops listed):j<ops.size∧ ¬Done listed j∧ ∀e∈(opAt ops j).after,Region.binds .any e=true→Done listed e.on:=by
 unfold Region.ready at h;rw[List.mem_filter,List.mem_range]at h;obtain⟨hj,h⟩:=h;rw[Bool.and_eq_true,opAt_get hj]at h;simp only[Option.map_some,Option.getD_some]at h;refine⟨hj,fun hd=>?_,fun e he hb=>?_⟩
 ·unfold Done at hd
  have:=h.1;simp[Array.getD_eq_getD_getElem?,hd]at this
 ·have:=Array.all_eq_true_iff_forall_mem.1 h.2 e he
  rw[hb]at this;simp only[Bool.not_true,Bool.false_or]at this;unfold Done;rw[Array.getD_eq_getD_getElem?]at this
  cases hl:listed[e.on]? with
  |none=>rw [hl]at this;simp at this
  |some b=>rw [hl]at this;simp at this;rw[this]
theorem all_done{listed:Array Bool}(hsz:listed.size=ops.size)(hm:Masked ops ms)(hr:Region.ready .any ops listed= []): ∀i,i<ops.size→Done listed i:=by
 intro i
 induction i using Nat.strongRecOn with
 |_ i ih=>
  intro hi
  refine Classical.byContradiction fun hnd=>?_
  have:i∈Region.ready .any ops listed:=by
   unfold Region.ready;rw[List.mem_filter,List.mem_range];refine⟨hi,?_⟩;rw[Bool.and_eq_true,opAt_get hi];constructor
   ·rw[Array.getD_eq_getD_getElem?]
    cases hl:listed[i]? with
    |none=>
     have:i<listed.size:=by omega
     simp[Array.getElem?_eq_getElem this]at hl
    |some b=>
     cases b
     ·rfl
     ·exact absurd hl hnd
   ·simp only[Option.map_some,Option.getD_some]
    rw[Array.all_eq_true_iff_forall_mem];intro e he;cases hb:Region.binds .any e
    ·rfl
    ·have hlt:=hm.low i hi e he hb
     have:=ih e.on hlt (by omega);unfold Done at this;simp[Array.getD_eq_getD_getElem?,this]
  rw[hr]at this;simp at this
end region
end
end Go.Proofs.YthnajefdiljneaaDoor.AM
namespace Go.Proofs.YthnajefdiljneaaDoor.AM
set_option linter.unusedSectionVars false
set_option linter.unusedVariables false
set_option linter.unusedSimpArgs false
section
variable {G:Nat→Option (List AV)} {A A':Area} {ρ ρ':Rho} {w w':World} {g:View}
theorem HR.hide(hr:HR G A ρ w g){b B k:Nat}{x:Blk}(hρ:ρ b=some (B,k))(hg:g b=some x)(hal:x.alive=true)(hA: ∀B' off,A' B' off↔(A B' off∨(B'=B∧k≤off))):
  HR G A' ρ w (setG g b .hole)∧Forb A' ρ (setG g b .hole)=Forb A ρ g:=by
 have hown: ∀B' off,Own ρ g B' off↔(Own ρ (setG g b .hole) B' off∨(B'=B∧k≤off)):=by
  intro B' off;constructor
  ·rintro⟨b',k',y,h1,h2,h3,h4⟩
   by_cases hb:b'=b
   ·subst hb;rw[hρ]at h1;cases h1;exact .inr ⟨rfl,h4⟩
   ·exact .inl ⟨b',k',y,h1,by simp[setG,hb,h2],h3,h4⟩
  ·rintro(⟨b',k',y,h1,h2,h3,h4⟩|⟨rfl,h⟩)
   ·simp only[setG]at h2
    split at h2
    ·cases h2;cases h3
    ·exact⟨b',k',y,h1,h2,h3,h4⟩
   ·exact⟨b,k,x,hρ,hg,hal,h⟩
 have hF:Forb A' ρ (setG g b .hole)=Forb A ρ g:=by
  funext B' off
  apply propext;unfold Forb;rw[hown,hA];constructor
  ·rintro(h|h|h)
   ·exact .inl (.inl h)
   ·exact .inr h
   ·exact .inl (.inr h)
  ·rintro((h|h)|h)
   ·exact .inl h
   ·exact .inr (.inr h)
   ·exact .inr (.inl h)
 refine⟨⟨fun b' h=>?_,fun b' y h hy=>?_,fun b' h B' k' hk=>?_,fun b1 b2 B' k1 k2 x1 x2 h1 h2 h3 h4 h5 h6=>?_,fun B' off ha=>?_,fun i cs h=>by rw[hF];exact hr.glob i cs h⟩,hF⟩
 ·simp only[setG]at h
  split at h
  ·cases h
  ·exact hr.dom b' h
 ·simp only[setG]at h
  split at h
  ·cases h;exact absurd rfl hy
  ·rw[hF];exact hr.blk b' y h hy
 ·simp only[setG]at h
  split at h
  ·rename_i e;subst e;rw[hρ]at hk;cases hk;exact(hA _ _).2 (.inr ⟨rfl,Nat.le_refl _⟩)
  ·exact(hA _ _).2 (.inl (hr.hole b' h B' k' hk))
 ·simp only[setG]at h3 h4
  split at h3
  ·cases h3;cases h5
  ·split at h4
   ·cases h4;cases h6
   ·exact hr.sep b1 b2 B' k1 k2 x1 x2 h1 h2 h3 h4 h5 h6
 ·rcases(hA B' off).1 ha with h|⟨rfl,h⟩
  ·have:=hr.avo B' off h
   exact⟨this.1,fun ho=>this.2 ((hown _ _).2 (.inl ho))⟩
  ·refine⟨hr.lt hρ,?_⟩
   rintro⟨b',k',y,h1,h2,h3,h4⟩;simp only[setG]at h2;split at h2
   ·cases h2;cases h3
   ·rename_i hb;exact hb (hr.sep b' b B' k' k y x h1 hρ h2 hg h3 hal)
theorem HR.apart(hr:HR G A ρ w g){B k:Nat}(hA: ∀off,k≤off→A B off): ∀off,¬Own ρ g B off:=by
 rintro off ⟨b,k',y,h1,h2,h3,h4⟩;exact(hr.avo B (max k k') (hA _ (Nat.le_max_left ..))).2 ⟨b,k',y,h1,h2,h3,Nat.le_max_right ..⟩
theorem HR.shown(hr:HR G A' ρ w g){b B k:Nat}{x:Blk}(hρ:ρ b=some (B,k))(hal:x.alive=true)(hB:B<w.heap.size)(hg:g b=some .hole)(hbr:BR (Forb A' ρ g) ρ w B k x)
  (hA: ∀B' off,A' B' off↔(A B' off∨(B'=B∧k≤off))) (hd: ∀off,k≤off→ ¬A B off) (hs: ∀b' k',ρ b'=some (B,k')→b'=b):
  HR G A ρ w (setG g b x)∧Forb A ρ (setG g b x)=Forb A' ρ g:=by
 have hap:=hr.apart (B:=B) (k:=k) (fun off h=>(hA _ _).2 (.inr ⟨rfl,h⟩))
 have hown: ∀B' off,Own ρ (setG g b x) B' off↔(Own ρ g B' off∨(B'=B∧k≤off)):=by
  intro B' off;constructor
  ·rintro⟨b',k',y,h1,h2,h3,h4⟩
   simp only[setG]at h2;split at h2
   ·rename_i hb;subst hb;rw[hρ]at h1;cases h1;exact .inr ⟨rfl,h4⟩
   ·exact .inl ⟨b',k',y,h1,h2,h3,h4⟩
  ·rintro(⟨b',k',y,h1,h2,h3,h4⟩|⟨rfl,h⟩)
   ·refine⟨b',k',y,h1,?_,h3,h4⟩
    simp only[setG];split
    ·rename_i hb;rw[hb,hg]at h2;cases h2;cases h3
    ·exact h2
   ·exact⟨b,k,x,hρ,by simp[setG],hal,h⟩
 have hF:Forb A ρ (setG g b x)=Forb A' ρ g:=by
  funext B' off
  apply propext;unfold Forb;rw[hown,hA];constructor
  ·rintro((h|h)|h)
   ·exact .inl h
   ·exact .inr (.inr h)
   ·exact .inr (.inl h)
  ·rintro(h|h|h)
   ·exact .inl (.inl h)
   ·exact .inr h
   ·exact .inl (.inr h)
 refine⟨⟨fun b' h=>?_,fun b' y h hy=>?_,fun b' h B' k' hk=>?_,fun b1 b2 B' k1 k2 x1 x2 h1 h2 h3 h4 h5 h6=>?_,fun B' off ha=>?_,fun i cs h=>by rw[hF];exact hr.glob i cs h⟩,hF⟩
 ·simp only[setG]at h
  split at h
  ·cases h
  ·exact hr.dom b' h
 ·simp only[setG]at h
  rw[hF];split at h
  ·rename_i hb;cases h;exact⟨B,k,by rw[hb];exact hρ,hB,hbr⟩
  ·exact hr.blk b' y h hy
 ·simp only[setG]at h
  split at h
  ·cases h;cases hal
  ·rename_i hb
   rcases(hA _ _).1 (hr.hole b' h B' k' hk)with h1|⟨rfl,_⟩
   ·exact h1
   ·exact absurd (hs b' k' hk) hb
 ·simp only[setG]at h3 h4
  split at h3
  ·rename_i e1
   split at h4
   ·rename_i e2;rw[e1,e2]
   ·subst e1
    rw[hρ]at h1;cases h1;exact(hs b2 k2 h2).symm
  ·split at h4
   ·rename_i e2
    subst e2;rw[hρ]at h2;cases h2;exact hs b1 k1 h1
   ·exact hr.sep b1 b2 B' k1 k2 x1 x2 h1 h2 h3 h4 h5 h6
 ·have h1:=hr.avo B' off ((hA _ _).2 (.inl ha))
  refine⟨h1.1,fun ho=>?_⟩
  rcases(hown _ _).1 ho with h|⟨rfl,h⟩
  ·exact h1.2 h
  ·exact hd off h ha
theorem Ext.widen{O O' O1 O1':Area}(h:Ext O ρ w O' ρ' w')(h1: ∀B off,O B off→O1 B off)(h2: ∀B off,O1' B off→O1 B off∨w.heap.size≤B):Ext O1 ρ w O1' ρ' w':=
 ⟨h.sub,h2,fun b B k hb=>by rcases h.newρ b B k hb with h'|h'|h'; · exact .inl h'
                            ·exact .inr (.inl (h1 _ _ h'))
                            ·exact .inr (.inr h'),h.st,h.size,
  fun B cs e fz hb=>by
   obtain⟨cs',fz',k1,k2,k3⟩:=h.keep B cs e fz hb
   exact⟨cs',fz',k1,k2,fun off ho hn=>k3 off ho (fun hh=>hn (h1 _ _ hh))⟩,
  fun B hB hn=>h.keepo B hB (fun off hh=>hn off (h1 _ _ hh))⟩
end
section
variable {E:Env} {s0 nn:Nat} {rd:Option Nat} {f:FuncId} {call:CallF} {N:Nat} {ops:Array Oper} {base:Nat} {T:Nat→Fr} {Hh:Nat→H} {ms:List Nat}
theorem allocA_congr{τ σ:Fr}{id:Nat}{o:Oper}(hk:kindOf E o.op= .alloc)(ha:Agree τ σ o){v:AV}{b:Blk}(h:allocA E f τ id o= .ok (v,b)):allocA E f σ id o= .ok (v,b):=by
 have h1:=opA_congr (E:=E) (f:=f) (call:=fun _ _ _=> .no "") (h:=List.replicate id .dead) ha;unfold opA at h1;simp only[hk,List.length_replicate,h]at h1
 cases hs:allocA E f σ id o with
 |no s=>rw [hs]at h1;cases h1
 |ok p=>
  obtain⟨v',b'⟩:=p;rw[hs]at h1
  have h2:=R.ok.inj h1
  simp only[Prod.mk.injEq,List.append_cancel_left_eq,List.cons.injEq,and_true]at h2;rw[h2.1,h2.2]
theorem loadA_dep{P:Program}{h h':H}{t:TypeId}{p:AV}(hd: ∀b,depOf p=some b→h[b]?=h'[b]?):loadA P h t p=loadA P h' t p:=by
 cases p<;>first|rfl|(simp only[loadA,hd _ rfl])
theorem elemsA_dep{h h':H}{p:AV}(hd: ∀b,depOf p=some b→h[b]?=h'[b]?):elemsA h p=elemsA h' p:=by
 cases p<;>first|rfl|(simp only[elemsA,hd _ rfl])
theorem mapOf_dep{h h':H}{p:AV}(hd: ∀b,depOf p=some b→h[b]?=h'[b]?):mapOf h p=mapOf h' p:=by
 cases p<;>first|rfl|(simp only[mapOf,hd _ rfl])
theorem readA_dep{τ:Fr}{h h':H}{o:Oper}(hd: ∀b,readDep E τ o=some b→h[b]?=h'[b]?):readA E τ h o=readA E τ h' o:=by
 unfold readDep at hd;unfold readA;split
 ·rename_i t a ho
  rw[ho]at hd;simp only at hd
  cases he:ev E τ a with
  |no s=>rfl
  |ok p=>rw [he]at hd;simp only[R.bind];exact loadA_dep hd
 ·rename_i src dst x ho
  rw[ho]at hd;simp only at hd
  cases he:ev E τ x with
  |no s=>rfl
  |ok p=>rw [he]at hd;simp only[R.bind,elemsA_dep hd]
 ·rename_i t m k ok ho
  rw[ho]at hd;simp only at hd
  cases he:ev E τ m with
  |no s=>rfl
  |ok p=>rw [he]at hd;simp only[R.bind,mapOf_dep hd]
 ·rename_i args ats ho
  rw[ho]at hd;simp only at hd
  cases ha:args.toList with
  |nil=>rfl
  |cons x xs=>
   cases xs with
   |nil=>
    rw[ha]at hd;simp only at hd;simp only[evs]
    cases he:ev E τ x with
    |no s=>rfl
    |ok p=>rw [he]at hd;simp only[R.bind,mapOf_dep hd]
   |cons y ys=>
    simp only[evs]
    cases ev E τ x with
    |no s=>rfl
    |ok p=>
     simp only[R.bind]
     cases ev E τ y with
     |no s=>rfl
     |ok q=>
      simp only
      cases evs E τ ys<;>rfl
 ·rfl
theorem sameR_eq{x y:R AV}(h:sameR x y=true):x=y:=by
 cases x<;>cases y<;>simp [sameR]at h
 rw[same_eq _ _ h]
theorem newSl_alive{dst:Option Nat}{id sz:Nat}{l:List AV}:(newSl E f dst id sz l).2.alive=true:=by
 unfold newSl
 split<;>rfl
theorem allocA_alive{τ:Fr}{id:Nat}{o:Oper}{v:AV}{b:Blk}(h:allocA E f τ id o= .ok (v,b)):b.alive=true:=by
 unfold allocA at h;split at h
 ·obtain⟨z,hz,h⟩:=R.bind_ok h;cases h;rfl
 ·obtain⟨z,hz,h⟩:=R.bind_ok h;split at h<;>cases h;rfl
 ·obtain⟨vs,hvs,h⟩:=R.bind_ok h
  obtain⟨d,hd,h⟩:=R.bind_ok h;split at h
  ·obtain⟨sz,hsz,h⟩:=R.bind_ok h
   obtain⟨z,hz,h⟩:=R.bind_ok h;split at h
   ·obtain⟨l,hl,h⟩:=R.bind_ok h
    have h:=R.ok.inj h
    have:=congrArg Prod.snd h;simp only at this;rw[←this];exact newSl_alive
   ·cases h
  ·cases h
 ·cases h;rfl
 ·obtain⟨d,hd,h⟩:=R.bind_ok h
  split at h
  ·obtain⟨i,hi,h⟩:=R.bind_ok h
   obtain⟨z,hz,h⟩:=R.bind_ok h;obtain⟨l,hl,h⟩:=R.bind_ok h;obtain⟨c,hc,h⟩:=R.bind_ok h;obtain⟨n,hn,h⟩:=R.bind_ok h;obtain⟨m,hm,h⟩:=R.bind_ok h;split at h
   ·have h:=R.ok.inj h
    have:=congrArg Prod.snd h;simp only at this;rw[←this];exact newSl_alive
   ·cases h
  ·cases h
 ·obtain⟨u,hu,h⟩:=R.bind_ok h
  obtain⟨us,hus,h⟩:=R.bind_ok h;obtain⟨ud,hud,h⟩:=R.bind_ok h;split at h
  ·obtain⟨ue,hue,h⟩:=R.bind_ok h
   split at h
   ·obtain⟨sz,hsz,h⟩:=R.bind_ok h
    split at h
    ·have h:=R.ok.inj h
     have:=congrArg Prod.snd h;simp only at this;rw[←this];exact newSl_alive
    ·cases h
   ·cases h
  ·cases h
 ·cases h
theorem ea_congr{D:Nat→Prop}{ρ ρ':Rho}(h: ∀i,D i→ρ' (idAt E ops base i)=ρ (idAt E ops base i)):EA E ops base D ρ'=EA E ops base D ρ:=by
 funext B off
 apply propext
 constructor<;>rintro⟨i,k,h1,h2,h3⟩
 ·exact⟨i,k,h1,by rw[←h i h1];exact h2,h3⟩
 ·exact⟨i,k,h1,by rw[h i h1];exact h2,h3⟩
variable {A:Area} {listed:Array Bool} {ρ0 ρ:Rho} {w0 w:World} {a:Act} {p:Nat}
theorem area_one{D D':Nat→Prop}{i0 B k:Nat}(hD: ∀i,D i↔(D' i∨i=i0))(hρ:ρ (idAt E ops base i0)=some (B,k)): ∀B' off,Plus A (EA E ops base D ρ) B' off↔(Plus A (EA E ops base D' ρ) B' off∨(B'=B∧k≤off)):=by
 intro B' off;constructor
 ·rintro(h|⟨i,k',h1,h2,h3⟩)
  ·exact .inl (.inl h)
  ·rcases(hD i).1 h1 with h|rfl
   ·exact .inl (.inr ⟨i,k',h,h2,h3⟩)
   ·rw[hρ]at h2;cases h2;exact .inr ⟨rfl,h3⟩
 ·rintro((h|⟨i,k',h1,h2,h3⟩)|⟨rfl,h⟩)
  ·exact .inl h
  ·exact .inr ⟨i,k',(hD i).2 (.inl h1),h2,h3⟩
  ·exact .inr ⟨i0,k,(hD i0).2 (.inr rfl),hρ,h⟩
theorem Inv.show1(hI:Inv E f N s0 ops base T Hh A listed ρ0 w0 ρ w a p){K:H}{D:Nat→Prop}(hDE: ∀i,D i→Early E ops T listed p i){i0:Nat}(hi0:Early E ops T listed p i0)(hD0: ¬D i0)
  (hr:HR E.G (Plus A (EA E ops base (fun i=>D i∨i=i0) ρ)) ρ w (view K)) (hF:Forb (Plus A (EA E ops base (fun i=>D i∨i=i0) ρ)) ρ (view K)=Forb (Plus A (EA E ops base (Early E ops T listed p) ρ)) ρ (view (Hh p)))
  (hg:K[idAt E ops base i0]?=some .hole) {v:AV} {x:Blk} (hx:allocA E f (T i0) (idAt E ops base i0) (opAt ops i0)= .ok (v,x)):
  HR E.G (Plus A (EA E ops base D ρ)) ρ w (view (K.set (idAt E ops base i0) x))∧Forb (Plus A (EA E ops base D ρ)) ρ (view (K.set (idAt E ops base i0) x))=Forb (Plus A (EA E ops base (Early E ops T listed p) ρ)) ρ (view (Hh p)):=by
 obtain⟨B,k,v',x',h1,h2,h3,h4,h5,h6⟩:=hI.early i0 hi0;rw[hx]at h2;cases h2
 obtain⟨q1,q2⟩:=hr.shown (A:=Plus A (EA E ops base D ρ)) h1 h3 h4 hg (by rw[hF];exact h5) (area_one (fun i=>Iff.rfl) h1)
  (fun off _ ha=>by
   rcases ha with ha|⟨i,k',e1,e2,_⟩
   ·exact h6 off ha
   ·have:=hI.sep i0 _ B k k' hi0 h1 e2
    have hne:i≠i0:=fun e=>hD0 (e▸e1)
    have he:=hDE i e1
    exact idAt_ne hne he.2.1 hi0.2.1 he.2.2.1 hi0.2.2.1 this)
  (fun b' k' hb'=>hI.sep i0 b' B k k' hi0 h1 hb')
 rw[view_set hg];exact⟨q1,q2.trans hF⟩
theorem Inv.all(hR:Run E f call N ops base T Hh)(hI:Inv E f N s0 ops base T Hh A listed ρ0 w0 ρ w a p): ∀n,n≤ops.size→ ∃K:H,HR E.G (Plus A (EA E ops base (fun i=>Early E ops T listed p i∧n≤i) ρ)) ρ w (view K)∧
  Forb (Plus A (EA E ops base (fun i=>Early E ops T listed p i∧n≤i) ρ)) ρ (view K)=Forb (Plus A (EA E ops base (Early E ops T listed p) ρ)) ρ (view (Hh p))∧
  (∀i,Early E ops T listed p i→i<n→ ∃v x,allocA E f (T i) (idAt E ops base i) (opAt ops i)= .ok (v,x)∧K[idAt E ops base i]?=some x)∧
  (∀b,(∀i,Early E ops T listed p i→i<n→b≠idAt E ops base i)→K[b]?=(Hh p)[b]?):=by
 intro n
 induction n with
 |zero=>
  intro _
  have he:(fun i=>Early E ops T listed p i∧0≤i)=Early E ops T listed p:=funext fun i=>propext ⟨fun h=>h.1,fun h=>⟨h,Nat.zero_le _⟩⟩
  exact⟨Hh p,by rw[he];exact hI.hr,by rw[he],fun i _ h=>by omega,fun b _=>rfl⟩
 |succ n ih=>
  intro hn;obtain⟨K,k1,k2,k3,k4⟩:=ih (by omega)
  by_cases hE:Early E ops T listed p n
  ·have he:(fun i=>Early E ops T listed p i∧n≤i)=fun i=>(Early E ops T listed p i∧n+1≤i)∨i=n:=funext fun i=>propext ⟨fun h=>by
     rcases Nat.lt_or_ge n i with h'|h'
     ·exact .inl ⟨h.1,h'⟩
     ·exact .inr (by omega),fun h=>by
     rcases h with h|rfl
     ·exact⟨h.1,by omega⟩
     ·exact⟨hE,Nat.le_refl _⟩⟩
   rw[he]at k1 k2
   have hg:K[idAt E ops base n]?=some .hole:=by
    rw[k4 _ (fun i hi hin=>fun e=>idAt_ne (Nat.ne_of_lt hin) hi.2.1 hE.2.1 hi.2.2.1 hE.2.2.1 e.symm)];exact hR.kept n p hE.2.1 hE.2.2.1 hE.1
   obtain⟨B,k,v,x,e1,e2,_⟩:=hI.early n hE;obtain⟨q1,q2⟩:=hI.show1 (fun i h=>h.1) hE (fun h=>by omega) k1 k2 hg e2;refine⟨K.set (idAt E ops base n) x,q1,q2,fun i hi hin=>?_,fun b hb=>?_⟩
   ·by_cases hi':i=n
    ·subst hi'
     exact⟨v,x,e2,by rw[List.getElem?_set_self (lt_of_getl hg)]⟩
    ·obtain⟨v',x',f1,f2⟩:=k3 i hi (by omega)
     refine⟨v',x',f1,?_⟩;rw[List.getElem?_set_ne (fun e=>idAt_ne hi' hi.2.1 hE.2.1 hi.2.2.1 hE.2.2.1 e.symm)];exact f2
   ·rw[List.getElem?_set_ne (fun e=>hb n hE (by omega) e.symm)]
    exact k4 b (fun i hi hin=>hb i hi (by omega))
  ·have he:(fun i=>Early E ops T listed p i∧n+1≤i)=fun i=>Early E ops T listed p i∧n≤i:=funext fun i=>propext ⟨fun h=>⟨h.1,by omega⟩,fun h=>⟨h.1,by
     rcases Nat.lt_or_ge n i with h'|h'
     ·exact h'
     ·have:i=n:=by omega
      subst this;exact absurd h.1 hE⟩⟩
   rw[←he]at k1 k2;refine⟨K,k1,k2,fun i hi hin=>?_,fun b hb=>k4 b (fun i hi hin=>hb i hi (by omega))⟩
   by_cases hi':i=n
   ·subst hi';exact absurd hi hE
   ·exact k3 i hi (by omega)
theorem Inv.adv(hR:Run E f call N ops base T Hh)(hI:Inv E f N s0 ops base T Hh A listed ρ0 w0 ρ w a p)(hp:p<ops.size)(h:isO E (opAt ops p)=false∨(isAl E (opAt ops p)=true∧Done listed p)):Inv E f N s0 ops base T Hh A listed ρ0 w0 ρ w a (p+1):=by
 have hch: ∀i,i<ops.size→isO E (opAt ops i)=true→isAl E (opAt ops i)=false→(Done listed i↔i<p+1):=fun i hi ho ha=>by
  rw[hI.chain i hi ho ha];constructor
  ·omega
  ·intro h1
   rcases Nat.lt_or_ge i p with h2|h2
   ·exact h2
   ·have:i=p:=by omega
    subst this
    rcases h with h|h
    ·rw[ho]at h;cases h
    ·rw[ha]at h;cases h.1
 have hal: ∀i,i<p+1→isAl E (opAt ops i)=true→Done listed i:=fun i hi ha=>by
  rcases Nat.lt_or_ge i p with h2|h2
  ·exact hI.als i h2 ha
  ·have:i=p:=by omega
   subst this
   rcases h with h|h
   ·rw[isO_isAl h]at ha;cases ha
   ·exact h.2
 by_cases hE:Early E ops T listed p p
 ·--it made memory
  obtain⟨B,k,v,x,e1,e2,e3,e4,e5,e6⟩:=hI.early p hE
  have hH:Hh (p+1)=(Hh p).set (idAt E ops base p) x:=by
   rcases stepD_al (hR.step p hp) hE.2.2.1 with⟨_,_,v',b',h1,h2,_⟩|⟨hw,_⟩
   ·rw[e2]at h1;cases h1;exact h2
   ·rw[hE.2.2.2.2]at hw;cases hw
  have hEq: ∀i,Early E ops T listed p i↔(Early E ops T listed (p+1) i∨i=p):=fun i=>⟨fun h=>by
    rcases Nat.lt_or_ge p i with h1|h1
    ·exact .inl ⟨h1,h.2⟩
    ·exact .inr (by have:=h.1;omega),fun h=>by
    rcases h with h|rfl
    ·exact⟨by have:=h.1;omega,h.2⟩
    ·exact hE⟩
  have hEf:Early E ops T listed p=fun i=>Early E ops T listed (p+1) i∨i=p:=funext fun i=>propext (hEq i)
  have hle: ∀i,Early E ops T listed (p+1) i→Early E ops T listed p i:=fun i hi=>(hEq i).2 (.inl hi)
  have hg:=hR.kept p p hp hE.2.2.1 (Nat.le_refl p)
  obtain⟨q1,q2⟩:=hI.show1 (D:=Early E ops T listed (p+1)) hle hE (fun h=>by have:=h.1;omega) (by rw[←hEf];exact hI.hr) (by rw[←hEf]) hg e2;rw[←hH]at q1 q2
  have hO:Plus (Own ρ (view (Hh (p+1)))) (EA E ops base (Early E ops T listed (p+1)) ρ)=Plus (Own ρ (view (Hh p))) (EA E ops base (Early E ops T listed p) ρ):=by
   funext B' off
   apply propext;have hg':view (Hh p) (idAt E ops base p)=some .hole:=hg;constructor
   ·rintro(⟨b,k',y,h1,h2,h3,h4⟩|⟨i,k',h1,h2,h3⟩)
    ·rw[hH,view_set hg]at h2
     simp only[setG]at h2;split at h2
     ·rename_i hb;subst hb;exact .inr ⟨p,k',hE,h1,h4⟩
     ·exact .inl ⟨b,k',y,h1,h2,h3,h4⟩
    ·exact .inr ⟨i,k',hle i h1,h2,h3⟩
   ·rintro(⟨b,k',y,h1,h2,h3,h4⟩|⟨i,k',h1,h2,h3⟩)
    ·refine .inl ⟨b,k',y,h1,?_,h3,h4⟩
     rw[hH,view_set hg];simp only[setG];split
     ·rename_i hb;rw[hb,hg']at h2;cases h2;cases h3
     ·exact h2
    ·rcases(hEq i).1 h1 with h|rfl
     ·exact .inr ⟨i,k',h,h2,h3⟩
     ·refine .inl ⟨_,k',x,h2,?_,e3,h3⟩
      rw[hH,view_set hg];simp[setG]
  refine⟨hI.size,hI.closed,hp,hch,hal,q1,fun i hi his hia hne=>hI.nyet i (by omega) his hia (fun h=>?_),fun i hi=>?_,fun i b B' k' k1 hi=>hI.sep i b B' k' k1 (hle i hi),by rw[hO];exact hI.ext,by rw[q2];exact hI.slots,hI.sz,by rw[hO];exact hI.de⟩
  ·rcases(hEq i).1 h with h'|h'
   ·exact hne h'
   ·omega
  ·obtain⟨B',k',v',x',f1,f2,f3,f4,f5,f6⟩:=hI.early i (hle i hi)
   exact⟨B',k',v',x',f1,f2,f3,f4,by rw[q2];exact f5,f6⟩
 ·--it made nothing
  have hEq:Early E ops T listed (p+1)=Early E ops T listed p:=funext fun i=>propext ⟨fun h=>⟨by have:=h.1;omega,h.2⟩,fun h=>⟨by
    rcases Nat.lt_or_ge p i with h1|h1
    ·exact h1
    ·have:i=p:=by have:=h.1;omega
     subst this;exact absurd h hE,h.2⟩⟩
  have hH:Hh (p+1)=Hh p:=by
   rcases h with h|⟨h1,h2⟩
   ·exact hR.quiet hp h
   ·rcases stepD_al (hR.step p hp) h1 with⟨hw,_⟩|⟨_,h3,_⟩
    ·exact absurd ⟨Nat.le_refl p,hp,h1,h2,hw⟩ hE
    ·exact h3
  exact⟨hI.size,hI.closed,hp,hch,hal,by rw[hEq,hH];exact hI.hr,fun i hi his hia hne=>hI.nyet i (by omega) his hia (by rw[←hEq];exact hne),by rw[hEq,hH];exact hI.early,by rw[hEq];exact hI.sep,by rw[hEq,hH];exact hI.ext,by rw[hEq,hH];exact hI.slots,hI.sz,by rw[hEq,hH];exact hI.de⟩
theorem Inv.advTo(hR:Run E f call N ops base T Hh): ∀{q:Nat},q≤ops.size→p≤q→Inv E f N s0 ops base T Hh A listed ρ0 w0 ρ w a p→(∀i,p≤i→i<q→isO E (opAt ops i)=false∨(isAl E (opAt ops i)=true∧Done listed i))→Inv E f N s0 ops base T Hh A listed ρ0 w0 ρ w a q:=by
 intro q
 induction q with
 |zero=>intro _ hpq hI _;obtain rfl:p=0:=by omega
        exact hI
 |succ q ih=>
  intro hq hpq hI h
  by_cases he:p=q+1
  ·rw[←he];exact hI
  ·exact(ih (by omega) (by omega) hI (fun i h1 h2=>h i h1 (by omega))).adv hR (by omega) (h q (by omega) (by omega))
theorem Inv.carry(hR:Run E f call N ops base T Hh)(hI:Inv E f N s0 ops base T Hh A listed ρ0 w0 ρ w a p){listed':Array Bool}{p':Nat}(hpp:p≤p')(hp':p'≤ops.size)(hE:Early E ops T listed' p'=Early E ops T listed p){ρ':Rho}{w':World}
  (hx:Ext (Own ρ (view (Hh p))) ρ w (Own ρ' (view (Hh p'))) ρ' w') (hr:HR E.G (Plus A (EA E ops base (Early E ops T listed p) ρ)) ρ' w' (view (Hh p')))
  (hsz:listed'.size=ops.size) (hcl:Closed ops (Done listed')) (hch: ∀i,i<ops.size→isO E (opAt ops i)=true→isAl E (opAt ops i)=false→(Done listed' i↔i<p')) (hal: ∀i,i<p'→isAl E (opAt ops i)=true→Done listed' i) {a':Act}
  (hsl: ∀t q,q≤ops.size→(∀i,i<q→(opAt ops i).dst=some t→Done listed' i)→(∀i,q≤i→i<ops.size→(opAt ops i).dst=some t→ ¬Done listed' i)→
   TR (Forb (Plus A (EA E ops base (Early E ops T listed p) ρ)) ρ' (view (Hh p'))) ρ' w' (a'.tmps.getD t Go.undef) (T q t)) (hN:a'.tmps.size=N) (hde:a'.defers=a.defers):
  Inv E f N s0 ops base T Hh A listed' ρ0 w0 ρ' w' a' p':=by
 have hsome: ∀i,Early E ops T listed p i→ρ' (idAt E ops base i)=ρ (idAt E ops base i):=fun i hi=>by
  obtain⟨B,k,v,x,e1,_⟩:=hI.early i hi;rw[e1,hx.sub _ _ e1]
 have hEA:=ea_congr (E:=E) (ops:=ops) (base:=base) hsome
 have hap: ∀i,Early E ops T listed p i→ ∀B k,ρ (idAt E ops base i)=some (B,k)→ ∀off,¬Own ρ (view (Hh p)) B off:=fun i hi B k hb=>hI.hr.apart (k:=k) (fun off h=> .inr ⟨i,k,hi,hb,h⟩)
 have hxt:Ext (Plus (Own ρ (view (Hh p))) (EA E ops base (Early E ops T listed p) ρ)) ρ w (Plus (Own ρ' (view (Hh p'))) (EA E ops base (Early E ops T listed p) ρ)) ρ' w':=hx.widen (fun B off h=> .inl h) (fun B off h=>by
  rcases h with h|h
  ·rcases hx.new B off h with h'|h'
   ·exact .inl (.inl h')
   ·exact .inr h'
  ·exact .inl (.inr h))
 refine⟨hsz,hcl,hp',hch,hal,by rw[hE,hEA];exact hr,fun i hi his hia hne=>?_,fun i hi=>?_,fun i b B k k1 hi h1 h2=>?_,?_,by rw[hE,hEA];exact hsl,hN,by rw[hde,hE,hEA];exact hI.de.ext hxt⟩
 ·have h0:=hI.nyet i (by omega) his hia (by rw[←hE];exact hne)
  cases hρ:ρ' (idAt E ops base i)with
  |none=>rfl
  |some z=>
   obtain⟨B,k⟩:=z
   have h1:=hr.hole _ (hR.kept i p' his hia hi) B k hρ
   have h2:=hI.hr.avo B k h1
   rcases hx.newρ _ B k hρ with h3|h3|h3
   ·rw[h0]at h3;cases h3
   ·exact absurd h3 h2.2
   ·omega
 ·rw[hE]at hi
  obtain⟨B,k,v,x,e1,e2,e3,e4,e5,e6⟩:=hI.early i hi;refine⟨B,k,v,x,hx.sub _ _ e1,e2,e3,Nat.lt_of_lt_of_le e4 hx.size,?_,e6⟩;rw[hE,hEA];exact e5.mono hx.sub hx.keeps (hx.keepo B e4 (hap i hi B k e1))
 ·rw[hE]at hi
  rw[hsome i hi]at h1
  rcases hx.newρ b B k1 h2 with h3|h3|h3
  ·exact hI.sep i b B k k1 hi h1 h3
  ·exact absurd h3 (hap i hi B k h1 k1)
  ·have:=hI.hr.lt h1;omega
 ·rw[hE,hEA];exact hI.ext.trans hxt
end
end Go.Proofs.YthnajefdiljneaaDoor.AM
end
section
-- SQUEEZED
/- The abstract machine: a range over a function that hands out a slice from its end. -/
namespace Go.Proofs.YthnajefdiljneaaDoor.AM
set_option linter.unusedSectionVars false
set_option linter.unusedVariables false
set_option linter.unusedSimpArgs false
def BackOK(P:Program)(gf:FuncId):Prop:=
 (∀args w,(callFunc gf args).run P w= .ok (.enter gf args) w)∧
 ∀(l bx n:Nat) (J:Nat→World→Prop) (w:World),n≤1000000→
  (∀k W,J k W→(k<n∨k=0)→ ∃a c,W.cell? ⟨bx,0,none⟩=some (.slice a n c))→
  (∀k W,J k W→k<n→ ∃B o c v,W.cell? ⟨bx,0,none⟩=some (.slice (some ⟨B,o,none⟩) n c)∧W.cell? ⟨B,o+(n-1-k),none⟩=some v∧
   YieldAt Fence.wide 0 P l #[.int .i64 ((n-1-k:Nat):Int),v] W fun e W'=>e= .returned (.bool true)∧J (k+1) W')→
  J 0 w→CallsIn Fence.wide 0 P gf #[.func (.yield l) #[] #[], .pointer (some ⟨bx,0,none⟩)] w fun e W'=>(∃v,e= .returned v)∧J n W'
def BOK(E:Env):Prop:= ∀gf,E.B gf=true→BackOK E.P gf
theorem rounds_spec{ga gb:Fr→H→R (X×Fr×H)}{τ:Fr}{ps:List Nat}{b:Nat}{s:AV}: ∀{l:List (Nat×AV)} {h h':H},rounds ga gb τ ps b s l h= .ok h'→
  ∃hk:Nat→H,hk 0=h∧hk l.length=h'∧ ∀(k:Nat) (i:Nat) (x:AV),l[k]?=some (i,x)→(hk k)[b]?=some (.var [s])∧ ∃τ1 h1 τ2,ga (setPs τ ps [.int .i64 i,x]) (hk k)= .ok (.normal,τ1,h1)∧gb τ1 h1= .ok (.normal,τ2,hk (k+1))
 | [],h,h',hr=>by cases hr;exact⟨fun _=>h,rfl,rfl,fun k i x hx=>by simp at hx⟩
 |(i,x)::rest,h,h',hr=>by
  simp only[rounds]at hr;split at hr
  ·rename_i hb
   split at hr
   ·rename_i τ1 h1 hga
    split at hr
    ·rename_i τ2 h2 hgb
     obtain⟨hk,k1,k2,k3⟩:=rounds_spec hr
     refine⟨fun k=>match k with|0=>h|k+1=>hk k,rfl,k2,fun k i' x' hx=>?_⟩
     cases k with
     |zero=>
      simp at hx;obtain⟨rfl,rfl⟩:=hx;exact⟨sameBlk_eq hb,τ1,h1,τ2,hga,by simp only[k1];exact hgb⟩
     |succ k=>
      obtain⟨g1,g2⟩:=k3 k i' x' (by simpa using hx);exact⟨g1,g2⟩
    ·cases hr
    ·cases hr
   ·cases hr
   ·cases hr
  ·cases hr
theorem backL_length(l:List AV):(backL l).length=l.length:=by simp[backL]
theorem backL_get{l:List AV}{k:Nat}(hk:k<l.length): ∃x,l[l.length-1-k]?=some x∧(backL l)[k]?=some (l.length-1-k,x):=by
 have hi:l.length-1-k<l.length:=by omega
 refine⟨l[l.length-1-k],List.getElem?_eq_getElem hi,?_⟩;unfold backL
 have hz:((List.range l.length).zip l).length=l.length:=by simp
 rw[List.getElem?_reverse (by rw[hz];exact hk),hz];rw[List.getElem?_zip_eq_some];exact⟨by simp[hi],List.getElem?_eq_getElem hi⟩
def isRec(o:Obj):Prop:=(∀cs e fz,o≠ .cells cs e fz)∧ ∀es c,o≠ .map es c
theorem Ext.putObj{O O':Area}{ρ ρ':Rho}{w w1:World}(hx:Ext O ρ w O' ρ' w1){D:Nat}{o':Obj}(hD:w.heap.size≤D):Ext O ρ w O' ρ' (w1.putObj D o'):=
 have hs:(w1.putObj D o').heap.size=w1.heap.size:=by simp[World.putObj]
 have hk: ∀B,B<w.heap.size→(w1.putObj D o').heap[B]?=w1.heap[B]?:=fun B hB=>by
  simp only[World.putObj];rw[Array.getElem?_setIfInBounds_ne (by omega)]
 ⟨hx.sub,hx.new,hx.newρ,hx.st,by rw[hs];exact hx.size,fun B cs e fz hb=>by
  obtain⟨cs',fz',k1,k2,k3⟩:=hx.keep B cs e fz hb
  exact⟨cs',fz',by rw[hk B (lt_of_get hb)];exact k1,k2,k3⟩,fun B hB ho=>by rw[hk B hB];exact hx.keepo B hB ho⟩
theorem keeps_putObj{F:Area}{w:World}{D:Nat}{o o':Obj}(hD:w.heap[D]?=some o)(ho:isRec o):Keeps F w F (w.putObj D o'):=by
 intro B cs e fz hb
 have hne:D≠B:=fun h=>by rw[h,hb]at hD;cases hD;exact ho.1 _ _ _ rfl
 refine⟨cs,fz,?_,rfl,fun off _ hF=>⟨rfl,hF⟩⟩;simp only[World.putObj];rw[Array.getElem?_setIfInBounds_ne hne];exact hb
theorem HR.putObj{G:Nat→Option (List AV)}{A:Area}{ρ:Rho}{w:World}{g:View}(hr:HR G A ρ w g){D:Nat}{o o':Obj}(hD:w.heap[D]?=some o)(ho:isRec o):HR G A ρ (w.putObj D o') g:=by
 have hk:=keeps_putObj (F:=Forb A ρ g) (o':=o') hD ho
 have hs:(w.putObj D o').heap.size=w.heap.size:=by simp[World.putObj]
 have hne: ∀B x,w.heap[B]?=some x→ ¬isRec x→(w.putObj D o').heap[B]?=w.heap[B]?:=fun B x hb hx=>by
  have:D≠B:=fun h=>by rw[h,hb]at hD;cases hD;exact hx ho
  simp only[World.putObj];rw[Array.getElem?_setIfInBounds_ne this]
 refine⟨hr.dom,fun b x hb hx=>?_,hr.hole,hr.sep,fun B off ha=>by rw[hs];exact hr.avo B off ha,fun i cs hi=>(hr.glob i cs hi).mono (fun _ _ h=>h) hk⟩;obtain⟨B,k,h1,h2,h3⟩:=hr.blk b x hb hx;refine⟨B,k,h1,by rw[hs];exact h2,?_⟩
 cases x with
 |var l=>obtain⟨_,cs,e,fz,h4,_⟩:=id h3;exact h3.mono (fun _ _ h=>h) hk (hne B _ h4 (fun h=>h.1 _ _ _ rfl))
 |arr sz l=>obtain⟨_,cs,e,fz,h4,_⟩:=id h3;exact h3.mono (fun _ _ h=>h) hk (hne B _ h4 (fun h=>h.1 _ _ _ rfl))
 |map es=>obtain⟨_,ents,clock,h4,_⟩:=id h3;exact h3.mono (fun _ _ h=>h) hk (hne B _ h4 (fun h=>h.2 _ _ rfl))
 |tail=>obtain⟨cs,e,fz,h4,_⟩:=id h3;exact h3.mono (fun _ _ h=>h) hk (hne B _ h4 (fun h=>h.1 _ _ _ rfl))
 |dead=>trivial
 |hole=>trivial
end Go.Proofs.YthnajefdiljneaaDoor.AM
namespace Go.Proofs.YthnajefdiljneaaDoor.AM
set_option linter.unusedSectionVars false
set_option linter.unusedVariables false
set_option linter.unusedSimpArgs false
section
variable {E:Env} {s0 nn:Nat} {rd:Option Nat} {f:FuncId} {call:CallF} {N:Nat} {ops:Array Oper} {base:Nat} {T:Nat→Fr} {Hh:Nat→H} {ms:List Nat}
theorem closed_set{listed:Array Bool}(hc:Closed ops (Done listed)){j:Nat}(hj:j<listed.size)(hr: ∀e∈(opAt ops j).after,Region.binds .any e=true→Done listed e.on):Closed ops (Done (listed.setIfInBounds j true)):=by
 intro k hk hd e he hb
 rw[done_set hj]at hd ⊢
 rcases hd with rfl|hd
 ·exact .inr (hr e he hb)
 ·exact .inr (hc k hk hd e he hb)
theorem slots_step(hR:Run E f call N ops base T Hh)(hD:DrawOk E ops ms){listed:Array Bool}(hsz:listed.size=ops.size)(hcl:Closed ops (Done listed)){j:Nat}(hj:j<ops.size)(hnd: ¬Done listed j){F:Area}{ρ:Rho}{w:World}{a:Act}{v:Value}{y:AV}
  (hN:a.tmps.size=N) (hold: ∀t q,q≤ops.size→(∀i,i<q→(opAt ops i).dst=some t→Done listed i)→(∀i,q≤i→i<ops.size→(opAt ops i).dst=some t→ ¬Done listed i)→TR F ρ w (a.tmps.getD t Go.undef) (T q t))
  (hv:CR F ρ w v y) (hp:putA N (T j) (opAt ops j).dst y= .ok (T (j+1))):
  ∀t q,q≤ops.size→(∀i,i<q→(opAt ops i).dst=some t→Done (listed.setIfInBounds j true) i)→(∀i,q≤i→i<ops.size→(opAt ops i).dst=some t→ ¬Done (listed.setIfInBounds j true) i)→TR F ρ w ((a.put (opAt ops j).dst v).tmps.getD t Go.undef) (T q t):=by
 intro t q hq h1 h2
 have hjl:j<listed.size:=by omega
 by_cases ht:(opAt ops j).dst=some t
 ·have hjq:j<q:=by
   rcases Nat.lt_or_ge j q with h|h
   ·exact h
   ·exact absurd ((done_set hjl j).2 (.inl rfl)) (h2 j h hj ht)
  have hno: ∀i,j+1≤i→i<q→(opAt ops i).dst≠some t:=by
   intro i hi hiq hd
   have hdone:=(done_set hjl i).1 (h1 i hiq hd)
   rcases hdone with h|h
   ·omega
   ·exact hnd (hD.msk.closed hcl i (by omega) h j (hD.tt j i t (by omega) (by omega) (.inl ⟨ht, .inr hd⟩)))
  have hTq:=hR.slot (t:=t) (show j+1≤q by omega) hq hno
  rw[ht]at hp ⊢
  obtain⟨h3,h4⟩:=putA_self hp;rw[←hTq,h3]
  have hlt:t<a.tmps.size:=by rw[hN];exact h4
  simp only[Act.put,Array.getD_eq_getD_getElem?,Array.getElem?_setIfInBounds_self_of_lt hlt,Option.getD_some];exact .inr hv
 ·have hsame:(a.put (opAt ops j).dst v).tmps.getD t Go.undef=a.tmps.getD t Go.undef:=by
   cases hd:(opAt ops j).dst with
   |none=>rfl
   |some d=>
    have:d≠t:=fun e=>ht (by rw[hd,e])
    simp[Act.put,Array.getD_eq_getD_getElem?,Array.getElem?_setIfInBounds_ne this]
  rw[hsame];refine hold t q hq (fun i hi hd=>?_) (fun i hi hin hd hdone=>?_)
  ·rcases(done_set hjl i).1 (h1 i hi hd)with h|h
   ·rw[h]at hd;exact absurd hd ht
   ·exact h
  ·exact h2 i hi hin hd ((done_set hjl i).2 (.inr hdone))
theorem Masked.lt(hm:Masked ops ms): ∀n j,j<n→j<ops.size→ ∀i,(ms.getD j 0).testBit i=true→i<j:=by
 intro n
 induction n with
 |zero=>intro j h;omega
 |succ n ihn=>
  intro j hj' hjn' i hbt;obtain⟨e,he,hbi,hlt,hc⟩:=hm.bit j hjn' i hbt
  rcases hc with rfl|hc
  ·exact hlt
  ·have:=ihn e.on (by omega) (by omega) i hc;omega
theorem any_wp(hS:Smet E.P E.S)(hC:COK E)(hcall:CallOK E call)(hR:Run E f call N ops base T Hh)(hD:DrawOk E ops ms)
  (hreads: ∀j i,j<ops.size→i<ops.size→kindOf E (opAt ops j).op= .read→isO E (opAt ops i)=true→(ms.getD j 0).testBit i=false→(ms.getD i 0).testBit j=false→i≠j→readA E (T j) (Hh i) (opAt ops j)=readA E (T j) (Hh (i+1)) (opAt ops j))
  (hlater: ∀j i b,j<ops.size→i<ops.size→kindOf E (opAt ops j).op= .read→isAl E (opAt ops i)=true→j≤i→readDep E (T j) (opAt ops j)=some b→b≠idAt E ops base i)
  {A:Area} {ρ0:Rho} {w0:World} {Q:Exit→Act→World→Prop}
  (hQ: ∀ρ w a,Ext (Own ρ0 (view (Hh 0))) ρ0 w0 (Own ρ (view (Hh ops.size))) ρ w→St E A ρ w a (T ops.size) (view (Hh ops.size)) N s0→Q .normal a w):
  ∀(fuel:Nat) (listed:Array Bool) (ρ:Rho) (w:World) (a:Act) (p:Nat),listed.toList.count false=fuel→Inv E f N s0 ops base T Hh A listed ρ0 w0 ρ w a p→wpAnyIn (fw rd) nn E.P .any ops Q fuel listed a w:=by
 have fin: ∀(listed:Array Bool) (ρ:Rho) (w:World) (a:Act) (p:Nat),Inv E f N s0 ops base T Hh A listed ρ0 w0 ρ w a p→Region.ready .any ops listed= []→Q .normal a w:=by
  intro listed ρ w a p hI hr
  have hall:=all_done hI.size hD.msk hr
  have hI2:=hI.advTo hR (Nat.le_refl _) hI.le (fun i h1 h2=>by
   cases ho:isO E (opAt ops i)
   ·exact .inl rfl
   ·cases ha:isAl E (opAt ops i)
    ·have:=(hI.chain i h2 ho ha).1 (hall i h2);omega
    ·exact .inr ⟨rfl,hall i h2⟩)
  have hno: ∀i,¬Early E ops T listed ops.size i:=fun i h=>by have:=h.1;have:=h.2.1;omega
  have hEA: ∀B off,¬EA E ops base (Early E ops T listed ops.size) ρ B off:=fun B off ⟨i,k,h,_⟩=>hno i h
  have hP: ∀X:Area,Plus X (EA E ops base (Early E ops T listed ops.size) ρ)=X:=fun X=>funext fun B=>funext fun off=>propext ⟨fun h=>h.resolve_right (hEA B off), .inl⟩
  refine hQ ρ w a (by have:=hI2.ext;rw[hP]at this;exact this) ⟨by have:=hI2.hr;rw[hP]at this;exact this,fun t=>?_,hI2.sz,by have:=hI2.de;rw[hP]at this;exact this⟩;have:=hI2.slots t ops.size (Nat.le_refl _) (fun i hi _=>hall i hi) (fun i h1 h2=>by omega);rw[hP]at this;exact this
 intro fuel
 induction fuel with
 |zero=>
  intro listed ρ w a p hcnt hI
  have hready:Region.ready .any ops listed= []:=by
   refine List.eq_nil_iff_forall_not_mem.2 fun j hj=>?_
   obtain⟨h1,h2,_⟩:=mem_ready hI.size hj
   have hlt:j<listed.size:=by have:=hI.size;omega
   have:listed[j]=false:=by
    cases hb:listed[j]
    ·rfl
    ·exact absurd (by unfold Done;rw[Array.getElem?_eq_getElem hlt,hb]) h2
   have hm:false∈listed.toList:=by rw[←this,Array.mem_toList_iff];exact Array.getElem_mem hlt
   exact absurd hcnt (Nat.ne_of_gt (List.count_pos_iff.2 hm))
  exact⟨hready,fin listed ρ w a p hI hready⟩
 |succ fuel ih=>
  intro listed ρ w a p0 hcnt hI0;refine⟨fin listed ρ w a p0 hI0,fun j hj=>?_⟩;obtain⟨hjn,hnd,hrd⟩:=mem_ready hI0.size hj
  have hanc0: ∀i,(ms.getD j 0).testBit i=true→Done listed i:=fun i hb=>hD.msk.ready hI0.closed hjn hrd hb
  -- ahead of a store or a call the place goes up to it
  obtain⟨p,hI,hpj⟩: ∃p,Inv E f N s0 ops base T Hh A listed ρ0 w0 ρ w a p∧(isO E (opAt ops j)=true→isAl E (opAt ops j)=false→p=j):=by
   cases ho:isO E (opAt ops j)
   ·exact⟨p0,hI0,fun h=>by cases h⟩
   ·cases ha:isAl E (opAt ops j)
    ·have hp0:p0≤j:=by
      rcases Nat.lt_or_ge j p0 with h|h
      ·exact absurd ((hI0.chain j hjn ho ha).2 h) hnd
      ·exact h
     refine⟨j,hI0.advTo hR (by omega) hp0 (fun i h1 h2=>?_),fun _ _=>rfl⟩;cases hoi:isO E (opAt ops i)
     ·exact .inl rfl
     ·have hdi:=hanc0 i (hD.oo i j h2 hjn hoi ho ha)
      cases hai:isAl E (opAt ops i)
      ·have:=(hI0.chain i (by omega) hoi hai).1 hdi;omega
      ·exact .inr ⟨rfl,hdi⟩
    ·exact⟨p0,hI0,fun _ h=>by cases h⟩
  clear hI0
  have hjl:j<listed.size:=by have:=hI.size;omega
  have hcnt':(listed.setIfInBounds j true).toList.count false=fuel:=by
   have hb:listed.toList[j]?=some false:=by
    rw[Array.getElem?_toList,Array.getElem?_eq_getElem hjl];cases hb:listed[j]
    ·rfl
    ·exact absurd (by unfold Done;rw[Array.getElem?_eq_getElem hjl,hb]) hnd
   rw[Array.toList_setIfInBounds]
   have hjl':j<listed.toList.length:=by simpa using hjl
   have hbe:listed.toList[j]=false:=by rw[List.getElem?_eq_getElem hjl']at hb;exact Option.some.inj hb
   rw[List.count_set hjl'];simp[hbe,hcnt]
  have hanc: ∀i,(ms.getD j 0).testBit i=true→Done listed i:=hanc0;obtain⟨X,hX⟩: ∃X,X=Plus A (EA E ops base (Early E ops T listed p) ρ):=⟨_,rfl⟩
  have hslots:=hI.slots
  rw[←hX]at hslots
  have hhr:=hI.hr
  rw[←hX]at hhr
  -- the operands
  have hlook: ∀t,mentions ops (opAt ops j) t→TR (Forb X ρ (view (Hh p))) ρ w (a.tmps.getD t Go.undef) (T j t):=by
   intro t ht;refine hslots t j (by omega) (fun i hi hd=>hanc i (hD.tt i j t hi hjn (.inl ⟨hd,ht⟩))) (fun i hi hin hd hdone=>?_)
   rcases Nat.lt_or_ge j i with hlt|hge
   ·exact hnd (hD.msk.closed hI.closed i hin hdone j (hD.tt j i t hlt hin (.inr ⟨hd,ht⟩)))
   ·obtain rfl:i=j:=by omega
    exact hnd hdone
  obtain⟨qf,hqf⟩:=Classical.axiomOfChoice (fun t=>hI.least hD t)
  obtain⟨σ,hσ⟩: ∃σ:Fr,σ=fun t=>open Classical in if mentions ops (opAt ops j) t then T j t else T (qf t) t:=⟨_,rfl⟩
  have hσl: ∀t,t∈(opAt ops j).looksAt ops→T j t=σ t:=fun t ht=>by rw[hσ];simp[show mentions ops (opAt ops j) t from .inl ht]
  have hfr:FRel (Forb X ρ (view (Hh p))) ρ w a.tmps σ:=by
   intro t;rw[hσ]
   by_cases ht:mentions ops (opAt ops j) t
   ·simp only[ht,if_true];exact hlook t ht
   ·simp only[ht,if_false];exact hslots t (qf t) (hqf t).1 (hqf t).2.1 (hqf t).2.2
  have hwant:Region.wanted (opAt ops j) (yielded ops a.tmps)=wantA ops (T j) (opAt ops j):=by
   rw[want_eq hfr ops _ (by rw[←gtop_congr hσl];exact stepD_gtop (hR.step j hjn)),wantA_congr hσl]
  have hcl:=closed_set hI.closed hjl hrd
  have hsz':(listed.setIfInBounds j true).size=ops.size:=by simpa using hI.size
  -- the rest, behind an operation that sets no memory aside
  have next: ∀(v:Value) (w':World) (ρ':Rho) (y:AV) (p':Nat),p≤p'→p'≤ops.size→(isAl E (opAt ops j)=true→wantA ops (T j) (opAt ops j)=false)→
    (∀i,i<ops.size→isO E (opAt ops i)=true→isAl E (opAt ops i)=false→(Done (listed.setIfInBounds j true) i↔i<p'))→(p'=p∨(p'=j+1∧p=j∧isAl E (opAt ops j)=false))→
    Ext (Own ρ (view (Hh p))) ρ w (Own ρ' (view (Hh p'))) ρ' w'→HR E.G X ρ' w' (view (Hh p'))→CR (Forb X ρ' (view (Hh p'))) ρ' w' v y→putA N (T j) (opAt ops j).dst y= .ok (T (j+1))→
    wpAnyIn (fw rd) nn E.P .any ops Q fuel (listed.setIfInBounds j true) (a.put (opAt ops j).dst v) w':=by
   intro v w' ρ' y p' hpp hp' hw hbase hcase hx hr hv hput
   have hE:Early E ops T (listed.setIfInBounds j true) p'=Early E ops T listed p:=by
    funext i
    apply propext;constructor
    ·rintro⟨h1,h2,h3,h4,h5⟩
     refine⟨by omega,h2,h3,?_,h5⟩
     rcases(done_set hjl i).1 h4 with rfl|h
     ·rw[hw h3]at h5;cases h5
     ·exact h
    ·rintro⟨h1,h2,h3,h4,h5⟩
     refine⟨?_,h2,h3,(done_set hjl i).2 (.inr h4),h5⟩
     rcases hcase with h|⟨h,h',h''⟩
     ·omega
     ·rcases Nat.lt_or_ge p i with h6|h6
      ·omega
      ·have:i=j:=by omega
       subst this;rw[h'']at h3;cases h3
   refine ih _ ρ' w' _ p' hcnt' (hI.carry hR hpp hp' hE hx (by rw[←hX];exact hr) hsz' hcl hbase (fun i hi ha=>?_) ?_ (by rw[put_size];exact hI.sz) (put_defers ..))
   ·rcases hcase with h|⟨h,h',h''⟩
    ·exact(done_set hjl i).2 (.inr (hI.als i (by omega) ha))
    ·rcases Nat.lt_or_ge i p with h6|h6
     ·exact(done_set hjl i).2 (.inr (hI.als i h6 ha))
     ·exact(done_set hjl i).2 (.inl (by omega))
   ·rw[←hX]
    exact slots_step hR hD hI.size hI.closed hjn hnd hI.sz (fun t q h1 h2 h3=>(hslots t q h1 h2 h3).ext hx) hv hput
  unfold wpOpIn;rw[opAt_get hjn];simp only[hwant];cases hO:isO E (opAt ops j)
  ·--it makes and writes nothing
   have hna:=isO_isAl hO
   have hbase: ∀i,i<ops.size→isO E (opAt ops i)=true→isAl E (opAt ops i)=false→(Done (listed.setIfInBounds j true) i↔i<p):=by
    intro i hi ho ha;rw[done_set hjl];constructor
    ·rintro(rfl|h)
     ·rw[hO]at ho;cases ho
     ·exact(hI.chain i hi ho ha).1 h
    ·exact fun h=> .inr ((hI.chain i hi ho ha).2 h)
   have hnw:isAl E (opAt ops j)=true→wantA ops (T j) (opAt ops j)=false:=fun h=>by rw[hna]at h;cases h
   rcases stepA_inv (stepD_ot (hR.step j hjn) hna)with⟨hw,y,hop,hput⟩|⟨hw,hh,hput⟩
   ·rw[if_pos hw]
    rw[opA_congr (agree_of hσl)]at hop
    by_cases hk:kindOf E (opAt ops j).op= .read
    ·--it reads:all memory that is there is counted in
     obtain⟨K,k1,k2,k3,k4⟩:=hI.all hR ops.size (Nat.le_refl _)
     have hno:(fun i=>Early E ops T listed p i∧ops.size≤i)=fun _=>False:=funext fun i=>propext ⟨fun h=>by have:=h.1.2.1;omega,False.elim⟩
     have hP:Plus A (EA E ops base (fun _=>False) ρ)=A:=funext fun B=>funext fun off=>propext ⟨fun h=>h.resolve_right (fun⟨i,k,h,_⟩=>h), .inl⟩
     rw[hno,hP]at k1 k2;rw[←hX]at k2;unfold opA at hop;simp only[hk]at hop;obtain⟨y',hopr,hop2⟩:=R.bind_ok hop;clear hop
     have hop2:=congrArg Prod.fst (R.ok.inj hop2)
     simp only at hop2;subst hop2
     -- what is read at a place of the text is what is read here
     have hag:=agree_of hσl
     have hK:readA E σ K (opAt ops j)= .ok y':=by
      have hj:readA E (T j) (Hh j) (opAt ops j)= .ok y':=by
       have h1:=opA_congr (E:=E) (f:=f) (call:=call) (h:=Hh j) hag;unfold opA at h1;simp only[hk]at h1;rw[hopr]at h1;obtain⟨y2,h2,h3⟩:=R.bind_ok h1
       have h3:=congrArg Prod.fst (R.ok.inj h3)
       simp only at h3;rw[h2,h3]
      have hTK:readA E (T j) K (opAt ops j)=readA E σ K (opAt ops j):=by
       have h1:=opA_congr (E:=E) (f:=f) (call:=call) (h:=K) hag;unfold opA at h1;simp only[hk]at h1
       cases e1:readA E (T j) K (opAt ops j)with
       |no s1=>
        cases e2:readA E σ K (opAt ops j)with
        |no s2=>rw [e1,e2]at h1;simp only[R.bind]at h1;rw[R.no.inj h1]
        |ok v2=>rw [e1,e2]at h1;cases h1
       |ok v1=>
        cases e2:readA E σ K (opAt ops j)with
        |no s2=>rw [e1,e2]at h1;cases h1
        |ok v2=>rw [e1,e2]at h1;have:=congrArg Prod.fst (R.ok.inj h1);simp only at this;rw[this]
      rw[←hTK]
      have stepSame: ∀i,i<ops.size→isO E (opAt ops i)=true→(ms.getD j 0).testBit i=false→(ms.getD i 0).testBit j=false→readA E (T j) (Hh i) (opAt ops j)=readA E (T j) (Hh (i+1)) (opAt ops j):=fun i hi ho h1 h2=>
       hreads j i hjn hi hk ho h1 h2 (fun e=>by rw[e,hO]at ho;cases ho)
      have notAfter: ∀i,i<ops.size→Done listed i→(ms.getD i 0).testBit j=false:=fun i hi hd=>by
       cases hbit:(ms.getD i 0).testBit j
       ·rfl
       ·exact absurd (hD.msk.closed hI.closed i hi hd j hbit) hnd
      have notAhead: ∀i,¬Done listed i→(ms.getD j 0).testBit i=false:=fun i hd=>by
       cases hbit:(ms.getD j 0).testBit i
       ·rfl
       ·exact absurd (hanc i hbit) hd
      have upward: ∀i,i<j→i<ops.size→(ms.getD i 0).testBit j=false:=fun i hij hi=>by
       cases hbit:(ms.getD i 0).testBit j
       ·rfl
       ·have:=hD.msk.lt (i+1) i (by omega) hi j hbit;omega
      have downward: ∀i,j<i→(ms.getD j 0).testBit i=false:=fun i hij=>by
       cases hbit:(ms.getD j 0).testBit i
       ·rfl
       ·have:=hD.msk.lt (j+1) j (by omega) hjn i hbit;omega
      have chain: ∀{p q:Nat},p≤q→q≤ops.size→(∀i,p≤i→i<q→isO E (opAt ops i)=true→readA E (T j) (Hh i) (opAt ops j)=readA E (T j) (Hh (i+1)) (opAt ops j))→readA E (T j) (Hh p) (opAt ops j)=readA E (T j) (Hh q) (opAt ops j):=by
       intro p q
       induction q with
       |zero=>intro h _ _;obtain rfl:p=0:=by omega
              rfl
       |succ q ihq=>
        intro h hq hk2
        by_cases hpq:p=q+1
        ·rw[hpq]
        ·rw[ihq (by omega) (by omega) (fun i h1 h2=>hk2 i h1 (by omega))]
         cases ho:isO E (opAt ops q)
         ·rw[hR.quiet (by omega) ho]
         ·exact hk2 q (by omega) (by omega) ho
      have other: ∀i,i<ops.size→isAl E (opAt ops i)=true→(∀b,readDep E (T j) (opAt ops j)=some b→b≠idAt E ops base i)→readA E (T j) (Hh i) (opAt ops j)=readA E (T j) (Hh (i+1)) (opAt ops j):=fun i hi ha hne=>
       readA_dep (fun b hb=>hR.other hi ha (hne b hb))
      -- between the place and the read, at a block that none of the early ones made
      have mid: ∀i,i<ops.size→isO E (opAt ops i)=true→(∀m,Early E ops T listed p m→ ∀b,readDep E (T j) (opAt ops j)=some b→b≠idAt E ops base m)→(p≤i∧i<j∨j≤i∧i<p)→readA E (T j) (Hh i) (opAt ops j)=readA E (T j) (Hh (i+1)) (opAt ops j):=by
       intro i hi ho hne hcase
       have hij:i≠j:=fun e=>by rw[e,hO]at ho;cases ho
       rcases hcase with⟨h1,h2⟩|⟨h1,h2⟩
       ·by_cases hdi:Done listed i
        ·cases ha:isAl E (opAt ops i)
         ·have:=(hI.chain i hi ho ha).1 hdi;omega
         ·cases hwi:wantA ops (T i) (opAt ops i)
          ·rcases stepD_al (hR.step i hi) ha with⟨h3,_⟩|⟨_,h3,_⟩
           ·rw[hwi]at h3;cases h3
           ·rw[h3]
          ·exact other i hi ha (hne i ⟨h1,hi,ha,hdi,hwi⟩)
        ·exact stepSame i hi ho (notAhead i hdi) (upward i h2 hi)
       ·have hdi:Done listed i:=by
         cases ha:isAl E (opAt ops i)
         ·exact(hI.chain i hi ho ha).2 h2
         ·exact hI.als i h2 ha
        exact stepSame i hi ho (downward i (by omega)) (notAfter i hi hdi)
      by_cases hearly: ∃m b,Early E ops T listed p m∧readDep E (T j) (opAt ops j)=some b∧b=idAt E ops base m
      ·obtain⟨m,b,hm,hb,hbm⟩:=hearly
       obtain⟨v',x,f1,f2⟩:=k3 m hm hm.2.1
       have hmj:m<j:=by
        rcases Nat.lt_or_ge m j with h|h
        ·exact h
        ·exact absurd hbm (hlater j m b hjn hm.2.1 hk hm.2.2.1 h hb)
       have hHm:(Hh (m+1))[b]?=some x:=by
        rcases stepD_al (hR.step m hm.2.1) hm.2.2.1 with⟨_,hg,v2,x2,g1,g2,_⟩|⟨h3,_⟩
        ·rw[f1]at g1;cases g1
         rw[g2,hbm,List.getElem?_set_self (lt_of_getl hg)]
        ·rw[hm.2.2.2.2]at h3;cases h3
       have e1:readA E (T j) K (opAt ops j)=readA E (T j) (Hh (m+1)) (opAt ops j):=readA_dep (fun b' hb'=>by
        rw[hb]at hb';cases hb'
        rw[hHm,hbm];exact f2)
       rw[e1,←hj];refine chain (by omega) (by omega) (fun i h1 h2 ho=>?_)
       by_cases hdi:Done listed i
       ·cases ha:isAl E (opAt ops i)
        ·have:=(hI.chain i (by omega) ho ha).1 hdi;have:=hm.1;omega
        ·exact other i (by omega) ha (fun b' hb' e=>by
          rw[hb]at hb';cases hb'
          exact idAt_ne (show m≠i by omega) hm.2.1 (by omega) hm.2.2.1 ha (hbm.symm.trans e))
       ·exact stepSame i (by omega) ho (notAhead i hdi) (upward i h2 (by omega))
      ·have hne: ∀m,Early E ops T listed p m→ ∀b,readDep E (T j) (opAt ops j)=some b→b≠idAt E ops base m:=fun m hm b hb e=>hearly ⟨m,b,hm,hb,e⟩
       have e1:readA E (T j) K (opAt ops j)=readA E (T j) (Hh p) (opAt ops j):=readA_dep (fun b hb=>k4 b (fun i hi _=>hne i hi b hb));rw[e1,←hj]
       rcases Nat.le_total p j with hpj'|hpj'
       ·exact chain hpj' (by omega) (fun i h1 h2 ho=>mid i (by omega) ho hne (.inl ⟨h1,h2⟩))
       ·exact(chain hpj' hI.le (fun i h1 h2 ho=>mid i (by have:=hI.le;omega) ho hne (.inr ⟨h1,h2⟩))).symm
     exact read_wp hS hK k1 (by rw[k2];exact hfr) (fun b hb=>rfl) (fun v hv=>next v w ρ y' p (Nat.le_refl _) hI.le hnw hbase (.inl rfl) (Ext.refl _ _ _) hhr (by rw[←k2];exact hv) hput)
    ·exact quiet_wp hS hC hop hO hhr hfr (fun h=>absurd h hk) (fun _ v w' ρ' hx hr hv=>next v w' ρ' y p (Nat.le_refl _) hI.le hnw hbase (.inl rfl) hx hr hv hput)
   ·rw[if_neg (by simp[hw])]
    refine⟨fun _ _=>trivial,?_⟩;exact next Go.undef w ρ undef p (Nat.le_refl _) hI.le hnw hbase (.inl rfl) (Ext.refl _ _ _) hhr undef_cr hput
  ·cases hAl:isAl E (opAt ops j)
   ·--it writes memory or calls:these stand in the text's order
    have hpe:=hpj hO hAl
    subst hpe
    have hbase: ∀i,i<ops.size→isO E (opAt ops i)=true→isAl E (opAt ops i)=false→(Done (listed.setIfInBounds p true) i↔i<p+1):=by
     intro i hi ho ha;rw[done_set hjl];constructor
     ·rintro(rfl|h)
      ·omega
      ·have:=(hI.chain i hi ho ha).1 h;omega
     ·intro h
      rcases Nat.lt_or_ge i p with h1|h1
      ·exact .inr ((hI.chain i hi ho ha).2 h1)
      ·exact .inl (by omega)
    have hnw:isAl E (opAt ops p)=true→wantA ops (T p) (opAt ops p)=false:=fun h=>by rw[hAl]at h;cases h
    have hst:St E X ρ w a σ (view (Hh p)) N s0:=⟨hhr,hfr,hI.sz,hI.de.1,hI.de.2.1,fun d hd=>by
     obtain⟨D,d1,d2,d3,d4⟩:=hI.de.2.2 d hd
     exact⟨D,d1,d2,d3,fun off h=>d4 off (.inl h)⟩⟩
    rcases stepA_inv (stepD_ot (hR.step p hjn) hAl)with⟨hw,y,hop,hput⟩|⟨hw,hh,hput⟩
    ·rw[if_pos hw]
     rw[opA_congr (agree_of hσl)]at hop;exact opA_wp hS hC hcall hop hst (fun v w' ρ' hx hr hv=>next v w' ρ' y (p+1) (by omega) (by omega) hnw hbase (.inr ⟨rfl,rfl,hAl⟩) hx hr hv hput)
    ·rw[if_neg (by simp[hw])]
     refine⟨fun _ _=>trivial,?_⟩;exact next Go.undef w ρ undef (p+1) (by omega) (by omega) hnw hbase (.inr ⟨rfl,rfl,hAl⟩) (by rw[hh];exact Ext.refl _ _ _) (by rw[hh];exact hhr) undef_cr hput
   ·--it makes memory
    have hpj':p≤j:=by
     rcases Nat.lt_or_ge j p with h|h
     ·exact absurd (hI.als j h hAl) hnd
     ·exact h
    have hbase: ∀i,i<ops.size→isO E (opAt ops i)=true→isAl E (opAt ops i)=false→(Done (listed.setIfInBounds j true) i↔i<p):=by
     intro i hi ho ha;rw[done_set hjl];constructor
     ·rintro(rfl|h)
      ·rw[hAl]at ha;cases ha
      ·exact(hI.chain i hi ho ha).1 h
     ·exact fun h=> .inr ((hI.chain i hi ho ha).2 h)
    rcases stepD_al (hR.step j hjn) hAl with⟨hw,hg,y,x,hop,_,hput⟩|⟨hw,hh,hput⟩
    ·rw[if_pos hw]
     have hgp:view (Hh p) (idAt E ops base j)=some .hole:=hR.kept j p hjn hAl hpj';have hid:ρ (idAt E ops base j)=none:=hI.nyet j hpj' hjn hAl (fun h=>hnd h.2.2.2.1);obtain⟨u,w',k,h1,h2,h3,h4⟩:=allocA_run hhr hfr hid (allocA_congr (isAl_kind hAl) (agree_of hσl) hop)
     refine gives_wp (fun c hc=>by simp[allocA,hc]at hop) (.inl h1) ?_
     have hxal:=allocA_alive hop
     obtain⟨ρ1,hρ1⟩: ∃ρ1,ρ1=setR ρ (idAt E ops base j) (w.heap.size,k):=⟨_,rfl⟩;rw[←hρ1]at h2 h3 h4
     have hj1:ρ1 (idAt E ops base j)=some (w.heap.size,k):=by rw[hρ1];simp[setR]
     have ho1: ∀b,b≠idAt E ops base j→ρ1 b=ρ b:=fun b hb=>by rw[hρ1];simp[setR,hb]
     have hset:setG (setG (view (Hh p)) (idAt E ops base j) x) (idAt E ops base j) .hole=view (Hh p):=by
      funext b
      simp only[setG];split
      ·rename_i hb;rw[hb,hgp]
      ·rfl
     have hD1: ∀i,Early E ops T (listed.setIfInBounds j true) p i↔(Early E ops T listed p i∨i=j):=fun i=>by
      constructor
      ·rintro⟨e1,e2,e3,e4,e5⟩
       rcases(done_set hjl i).1 e4 with h|h
       ·exact .inr h
       ·exact .inl ⟨e1,e2,e3,h,e5⟩
      ·rintro(⟨e1,e2,e3,e4,e5⟩|rfl)
       ·exact⟨e1,e2,e3,(done_set hjl i).2 (.inr e4),e5⟩
       ·exact⟨hpj',hjn,hAl,(done_set hjl i).2 (.inl rfl),hw⟩
     have hidne: ∀i,Early E ops T listed p i→idAt E ops base i≠idAt E ops base j:=fun i hi=>idAt_ne (fun e=>hnd (e▸hi.2.2.2.1)) hi.2.1 hjn hi.2.2.1 hAl
     have hEA1:=ea_congr (E:=E) (ops:=ops) (base:=base) (D:=Early E ops T listed p) (ρ:=ρ) (ρ':=ρ1) (fun i hi=>ho1 _ (hidne i hi));have harea:=area_one (A:=A) (E:=E) (ops:=ops) (base:=base) hD1 hj1;rw[hEA1,←hX]at harea;obtain⟨q1,q2⟩:=h3.hide hj1 (by simp[setG]) hxal harea;rw[hset]at q1 q2
     have hap: ∀i,Early E ops T listed p i→ ∀B k,ρ (idAt E ops base i)=some (B,k)→ ∀off,¬Own ρ (view (Hh p)) B off:=fun i hi B k hb=>hI.hr.apart (k:=k) (fun off h=> .inr ⟨i,k,hi,hb,h⟩)
     have hxt:Ext (Plus (Own ρ (view (Hh p))) (EA E ops base (Early E ops T listed p) ρ)) ρ w (Plus (Own ρ1 (view (Hh p))) (EA E ops base (Early E ops T (listed.setIfInBounds j true) p) ρ1)) ρ1 w':=by
      refine h2.widen (fun B off h=> .inl h) (fun B off h=>?_)
      rcases h with⟨b,k',z,g1,g2,g3,g4⟩|⟨i,k',g1,g2,g3⟩
      ·have hb:b≠idAt E ops base j:=fun e=>by rw[e,hgp]at g2;cases g2;cases g3
       rw[ho1 b hb]at g1;exact .inl (.inl ⟨b,k',z,g1,g2,g3,g4⟩)
      ·rcases(hD1 i).1 g1 with h|h
       ·rw[ho1 _ (hidne i h)]at g2
        exact .inl (.inr ⟨i,k',h,g2,g3⟩)
       ·subst h
        rw[hj1]at g2;cases g2;exact .inr (Nat.le_refl _)
     refine ih _ ρ1 w' _ p hcnt' ⟨hsz',hcl,hI.le,hbase,fun i hi ha=>(done_set hjl i).2 (.inr (hI.als i hi ha)),q1,fun i hi his hia hne=>?_,fun i hi=>?_,fun i b B k' k1 hi g1 g2=>?_,hI.ext.trans hxt,?_,by rw[put_size];exact hI.sz,by rw[put_defers];exact hI.de.ext hxt⟩
     ·have hij:i≠j:=fun e=>hne ((hD1 i).2 (.inr e))
      rw[ho1 _ (fun e=>idAt_ne hij his hjn hia hAl e)];exact hI.nyet i hi his hia (fun h=>hne ((hD1 i).2 (.inl h)))
     ·rcases(hD1 i).1 hi with h|h
      ·obtain⟨B,k',v',x',e1,e2,e3,e4,e5,e6⟩:=hI.early i h
       refine⟨B,k',v',x',by rw[ho1 _ (hidne i h)];exact e1,e2,e3,Nat.lt_of_lt_of_le e4 h2.size,?_,e6⟩;rw[q2];rw[←hX]at e5;exact e5.mono h2.sub h2.keeps (h2.keepo B e4 (hap i h B k' e1))
      ·subst h
       obtain⟨B,k',g1,g2,g3⟩:=h3.blk (idAt E ops base i) x (by simp[setG]) (fun e=>by rw[e]at hxal;cases hxal);rw[hj1]at g1;cases g1;refine⟨_,_,y,x,hj1,hop,hxal,g2,by rw[q2];exact g3,fun off ha=>?_⟩;have:=(hhr.avo w.heap.size off (by rw[hX];exact .inl ha)).1;omega
     ·rcases(hD1 i).1 hi with h|h
      ·rw[ho1 _ (hidne i h)]at g1
       by_cases hb:b=idAt E ops base j
       ·subst hb
        rw[hj1]at g2;cases g2;have:=hhr.lt g1;omega
       ·rw[ho1 b hb]at g2
        exact hI.sep i b B k' k1 h g1 g2
      ·subst h
       by_cases hb:b=idAt E ops base i
       ·exact hb
       ·rw[ho1 b hb]at g2
        rw[hj1]at g1;cases g1;have:=hhr.lt g2;omega
     ·rw[q2]
      exact slots_step hR hD hI.size hI.closed hjn hnd hI.sz (fun t q h5 h6 h7=>(hslots t q h5 h6 h7).ext h2) h4 hput
    ·rw[if_neg (by simp[hw])]
     refine⟨fun _ _=>trivial,?_⟩;exact next Go.undef w ρ undef p (Nat.le_refl _) hI.le (fun _=>hw) hbase (.inl rfl) (Ext.refl _ _ _) hhr undef_cr hput
theorem view_holes(h:H)(n:Nat)(b:Nat):(view (h++List.replicate n .hole) b=view h b∧b<h.length)∨(h.length≤b∧(view (h++List.replicate n .hole) b=some .hole∨view (h++List.replicate n .hole) b=none)):=by
 simp only[view]
 rcases Nat.lt_or_ge b h.length with h1|h1
 ·exact .inl ⟨List.getElem?_append_left h1,h1⟩
 ·refine .inr ⟨h1,?_⟩
  rw[List.getElem?_append_right h1,List.getElem?_replicate];split
  ·exact .inl rfl
  ·exact .inr rfl
theorem HR.holes{G:Nat→Option (List AV)}{A:Area}{ρ:Rho}{w:World}{h:H}(hr:HR G A ρ w (view h))(n:Nat):HR G A ρ w (view (h++List.replicate n .hole))∧Own ρ (view (h++List.replicate n .hole))=Own ρ (view h):=by
 have hnone: ∀b,h.length≤b→ρ b=none:=fun b hb=>hr.dom b (by simp[view];omega)
 have hown:Own ρ (view (h++List.replicate n .hole))=Own ρ (view h):=by
  funext B off
  apply propext;constructor
  ·rintro⟨b,k,y,h1,h2,h3,h4⟩
   rcases view_holes h n b with⟨e,_⟩|⟨e,_⟩
   ·exact⟨b,k,y,h1,by rw[←e];exact h2,h3,h4⟩
   ·rw[hnone b e]at h1;cases h1
  ·rintro⟨b,k,y,h1,h2,h3,h4⟩
   rcases view_holes h n b with⟨e,_⟩|⟨e,_⟩
   ·exact⟨b,k,y,h1,by rw[e];exact h2,h3,h4⟩
   ·rw[hnone b e]at h1;cases h1
 have hF:Forb A ρ (view (h++List.replicate n .hole))=Forb A ρ (view h):=by unfold Forb;rw[hown]
 refine⟨⟨fun b hb=>?_,fun b y hb hy=>?_,fun b hb B k hk=>?_,fun b1 b2 B k1 k2 x1 x2 h1 h2 h3 h4 h5 h6=>?_,fun B off ha=>by rw[hown];exact hr.avo B off ha,fun i cs hi=>by rw[hF];exact hr.glob i cs hi⟩,hown⟩
 ·rcases view_holes h n b with⟨e,_⟩|⟨e,_⟩
  ·exact hr.dom b (by rw[←e];exact hb)
  ·exact hnone b e
 ·rw[hF]
  rcases view_holes h n b with⟨e,_⟩|⟨_,e|e⟩
  ·exact hr.blk b y (by rw[←e];exact hb) hy
  ·rw[e]at hb;cases hb;exact absurd rfl hy
  ·rw[e]at hb;cases hb
 ·rcases view_holes h n b with⟨e,_⟩|⟨e,_⟩
  ·exact hr.hole b (by rw[←e];exact hb) B k hk
  ·rw[hnone b e]at hk;cases hk
 ·rcases view_holes h n b1 with⟨e1,_⟩|⟨e1,_⟩
  ·rcases view_holes h n b2 with⟨e2,_⟩|⟨e2,_⟩
   ·exact hr.sep b1 b2 B k1 k2 x1 x2 h1 h2 (by rw[←e1];exact h3) (by rw[←e2];exact h4) h5 h6
   ·rw[hnone b2 e2]at h2;cases h2
  ·rw[hnone b1 e1]at h1;cases h1
theorem regionA_wp(hS:Smet E.P E.S)(hC:COK E)(hcall:CallOK E call)(hmix:E.P.follows .mixedOrders=true){id:Nat}{draw:Bool}{τ τ':Fr}{h h':H}(ho:regionA E f call N ops draw τ h= .ok (τ',h')){A:Area}{ρ:Rho}{w:World}{a:Act}(hs:St E A ρ w a τ (view h) N s0){Q:Exit→Act→World→Prop}
  (hQ: ∀a' w' ρ',Ext (Own ρ (view h)) ρ w (Own ρ' (view h')) ρ' w'→St E A ρ' w' a' τ' (view h') N s0→Q .normal a' w'):(Code.region id ops draw).wpIn (fw rd) nn E.P Q a w:=by
 cases draw with
 |false=>
  refine wpIn_region ?_
  rw[List.range_eq_range'];exact opsA_wp hS hC hcall ops.size 0 τ h ρ w a (by omega) ho hs hQ
 |true=>
  simp only[regionA]at ho;obtain⟨⟨tr,lt,lh⟩,htr,ho⟩:=R.bind_ok ho;simp only at ho;split at ho
  ·rename_i hds
   split at ho
   ·rename_i hdd
    split at ho
    ·rename_i hdl
     split at ho
     ·rename_i hdh
      cases ho;obtain⟨t1,t2,t3,t4⟩:=trace_spec htr
      have hlen:tr.length=ops.size:=by simpa using t1
      have hR:Run E f call N ops h.length (frameAt tr τ') (heapAt tr h'):=by
       refine⟨fun i hi=>t4 i _ (by rw[Array.getElem?_toList];exact opAt_get hi),fun i m hi ha hm=>?_⟩
       have h1:=List.all_eq_true.1 hdh i (List.mem_range.2 hi)
       rw[ha]at h1;simp only[Bool.not_true,Bool.false_or]at h1;exact sameBlk_eq (List.all_eq_true.1 h1 m (List.mem_range.2 (by omega)))
      have hD:=drawS_ok hds
      have hw1:({w with drawn:=w.drawn+1}:World).heap=w.heap:=rfl;obtain⟨hr1,hx1⟩:=hs.hr.heap hw1 ⟨rfl,rfl,rfl⟩;obtain⟨hr2,ho2⟩:=hr1.holes (alsOf E ops.toList)
      have hno: ∀l:Array Bool,(∀i,¬Done l i)→ ∀i,¬Early E ops (frameAt tr τ') l 0 i:=fun l hl i he=>hl i he.2.2.2.1
      have hnd: ∀i,¬Done (Array.replicate ops.size false) i:=fun i hd=>by unfold Done at hd;simp[Array.getElem?_replicate]at hd
      have hP: ∀(Y:Area) (ρ1:Rho),Plus Y (EA E ops h.length (Early E ops (frameAt tr τ') (Array.replicate ops.size false) 0) ρ1)=Y:=fun Y ρ1=>funext fun B=>funext fun off=>propext ⟨fun hh=>hh.resolve_right (fun⟨i,k,h1,_⟩=>hno _ hnd i h1), .inl⟩
      refine wpIn_region_any hmix ?_
      refine any_wp (s0:=s0) (base:=h.length) (T:=frameAt tr τ') (Hh:=heapAt tr h') (ρ0:=ρ) (w0:=w) (A:=A) hS hC hcall hR hD ?_ ?_ ?_ ops.size _ ρ _ a 0 ?_ ?_
      ·intro j i hj hi hk ho hb1 hb2 hne
       have hmem:(j,i)∈pairsA E ops (masksA ops.toList []):=by
        unfold pairsA;rw[List.mem_flatMap];refine⟨j,List.mem_range.2 hj,?_⟩;rw[if_pos hk,List.mem_map];refine⟨i,List.mem_filter.2 ⟨List.mem_range.2 hi,?_⟩,rfl⟩;simp only[ho,hb1,hb2,Bool.not_false,Bool.and_true,Bool.true_and,Bool.not_eq_true',beq_eq_false_iff_ne];exact hne
       have h1:=List.all_eq_true.1 hdd (j,i) hmem
       simp only[Bool.or_eq_true]at h1
       rcases h1 with h1|h1
       ·refine readA_dep (fun b hb=>?_)
        rw[hb]at h1;exact sameBlk_eq h1
       ·exact sameR_eq h1
      ·intro j i b hj hi hk ha hji hdep
       have h1:=List.all_eq_true.1 hdl j (List.mem_range.2 hj)
       rw[if_pos hk,hdep]at h1
       have h2:=List.all_eq_true.1 h1 i (List.mem_range.2 hi)
       have h3:decide (i<j)=false:=by simp;omega
       rw[h3,ha]at h2
       simpa using h2
      ·intro ρ' w' a' hx hst
       rw[frameAt_last hlen,heapAt_last hlen]at hst;rw[heapAt_last hlen,t3,ho2]at hx;exact hQ a' w' ρ' hx hst
      ·simp
      ·refine⟨by simp,fun j hj hd=>absurd hd (hnd j),Nat.zero_le _,fun i hi ho ha=>⟨fun hd=>absurd hd (hnd i),fun h=>by omega⟩,fun i h=>by omega,by rw[hP,t3];exact hr2,fun i _ hi ha _=>?_,fun i hi=>absurd hi (hno _ hnd i),fun i b B k k1 hi=>absurd hi (hno _ hnd i),by rw[hP,t3,ho2];exact hx1,fun t q hq h1 h2=>?_,hs.sz,by rw[hP,t3,ho2];exact hs.de.ext hx1⟩
       ·exact hr1.dom _ (by simp[view,idAt])
       ·have:frameAt tr τ' 0 t=frameAt tr τ' q t:=hR.slot (t:=t) (Nat.zero_le q) hq (fun i _ hi hd=>hnd i (h1 i hi hd))
        rw[←this,t2,t3,hP]
        have h5:=(hs.fr t).ext hx1
        unfold Forb at h5 ⊢
        rw[ho2];exact h5
     ·cases ho
    ·cases ho
   ·cases ho
  ·cases ho
def X.exit':X→Exit
 | .normal=> .normal
 | .ret=> .ret
 | .exit id=> .exit id
def Post(E:Env)(A:Area)(N s0:Nat)(ρ:Rho)(w:World)(h:H)(x:X)(τ':Fr)(h':H):Exit→Act→World→Prop:=
 fun e a' w'=>e=x.exit'∧ ∃ρ',Ext (Own ρ (view h)) ρ w (Own ρ' (view h')) ρ' w'∧St E A ρ' w' a' τ' (view h') N s0
theorem Post.from{A:Area}{ρ ρ1:Rho}{w w1:World}{h h1:H}{x:X}{τ':Fr}{h':H}{e:Exit}{a':Act}{w':World}(hx:Ext (Own ρ (view h)) ρ w (Own ρ1 (view h1)) ρ1 w1)(hp:Post E A N s0 ρ1 w1 h1 x τ' h' e a' w'):Post E A N s0 ρ w h x τ' h' e a' w':=
 let⟨h1,ρ',h2,h3⟩:=hp
 ⟨h1,ρ',hx.trans h2,h3⟩
theorem iter_wp{g:Fr→H→R (X×Fr×H)}{c:Code}{A:Area}
  (hg: ∀τ h x τ' h' ρ w a,g τ h= .ok (x,τ',h')→St E A ρ w a τ (view h) N s0→c.wpIn (fw rd) nn E.P (Post E A N s0 ρ w h x τ' h') a w) {x:X} {τ':Fr} {h':H} (n:Nat) (τ:Fr) (h:H) (ρ:Rho) (w:World) (a:Act)
  (hi:iter g n τ h= .ok (x,τ',h')) (hs:St E A ρ w a τ (view h) N s0):(Code.loop c).wpIn (fw rd) nn E.P (Post E A N s0 ρ w h x τ' h') a w:=by
 have key: ∀(n:Nat) (τ:Fr) (h1:H) (ρ1:Rho) (w1:World) (a:Act),iter g n τ h1= .ok (x,τ',h')→St E A ρ1 w1 a τ (view h1) N s0→Ext (Own ρ (view h)) ρ w (Own ρ1 (view h1)) ρ1 w1→
   Code.roundsIn (fw rd) nn E.P c (Post E A N s0 ρ w h x τ' h') n a w1:=by
  intro n
  induction n with
  |zero=>intro τ h1 ρ1 w1 a hi;cases hi
  |succ n ih=>
   intro τ h1 ρ1 w1 a hi hs hx;simp only[iter]at hi
   cases hgr:g τ h1 with
   |no s=>rw [hgr]at hi;cases hi
   |ok r=>
    obtain⟨x1,τ1,h2⟩:=r;rw[hgr]at hi;rw[roundsIn_succ]
    refine wpIn_mono (hg τ h1 x1 τ1 h2 ρ1 w1 a hgr hs) ?_
    rintro e a1 w2 ⟨rfl,ρ2,hx2,hst2⟩
    cases x1 with
    |normal=>simp only at hi;exact ih τ1 h2 ρ2 w2 a1 hi hst2 (hx.trans hx2)
    |ret=>simp only at hi;cases hi;exact⟨rfl,ρ2,hx.trans hx2,hst2⟩
    |exit id=>simp only at hi;cases hi;exact⟨rfl,ρ2,hx.trans hx2,hst2⟩
 exact wpIn_loop_rounds n (key n τ h ρ w a hi hs (Ext.refl _ _ _))
theorem HR.push{G:Nat→Option (List AV)}{A:Area}{ρ:Rho}{w w':World}{g:View}(hr:HR G A ρ w g){o:Obj}(hw:w'.heap=w.heap.push o)(hst:SameS w w'):HR G A ρ w' g∧Ext (Own ρ g) ρ w (Own ρ g) ρ w':=by
 obtain⟨h1,h2⟩:=hr.upd (ρ':=ρ) (w':=w') (g':=g) w.heap.size hst (fun b p hb=>hb) (fun B hB hne=>by rw[hw];simp[Array.getElem?_push,Nat.ne_of_lt hB]) (fun cs e fz hb=>by have:=lt_of_get hb;omega) (fun h=>by omega) (by rw[hw];simp) (fun B off h=> .inl h) (fun b B k h=> .inl h);exact⟨h2 hr.dom (fun b blk hb=> .inl ⟨hb,fun hal B k hB=>Nat.ne_of_lt (hr.lt hB)⟩) hr.sep (fun b h=>⟨h,rfl⟩),h1⟩
theorem clo_box{F:Area}{ρ:Rho}{w:World}{u:Value}{gf b:Nat}(h:CR F ρ w u (.clo gf [] [.ptr b 0])): ∃Bb,u= .func (.func gf) #[] #[.pointer (some ⟨Bb,0,none⟩)]∧ρ b=some (Bb,0):=by
 cases h with
 | @clo f first caps fa ca hf hc vs us h1 h2 h3 h4=>
   have e1:first= #[]:=by apply Array.eq_empty_of_size_eq_zero;simpa using hf
   obtain⟨c0,e2⟩: ∃c0,caps= #[c0]:=by
    obtain⟨l⟩:=caps
    match l,hc with
    | [c0],_=>exact⟨c0,rfl⟩
   subst e1;subst e2
   have h5:=h3 0 _ rfl
   have h6:=h4 0 _ rfl
   simp at h5;rw[←h5]at h6
   cases h6 with
   |ptr hρ=>exact⟨_,rfl,hρ⟩
theorem exec_range{g:Operand}{ps:Array Tmp}{assign body:Code}{τ τ':Fr}{h h':H}{x:X}(he:exec E f call N (.rangeFunc g ps assign body) τ h= .ok (x,τ',h')):
  ∃gf b,ev E τ g= .ok (.clo gf [] [.ptr b 0])∧E.B gf=true∧x= .normal∧τ'=τ∧(h[b]?=some (.var [.nils])∧h'=h∨ ∃sz l tl,h[b]?=some (.var [.lst sz l tl])∧sz=1∧l.length≤1000000∧ps.size=2∧(ps.toList.all fun p=>decide (p<N))=true∧(l.all AV.leaf)=true∧noRF assign=true∧noRF body=true∧
   rounds (exec E f call N assign) (exec E f call N body) τ ps.toList b (.lst sz l tl) (backL l) h= .ok h'):=by
 simp only[exec]at he;split at he
 ·rename_i gf b hg
  split at he
  ·rename_i hB
   split at he
   ·rename_i hb
    cases he;exact⟨gf,b,hg,hB,rfl,rfl, .inl ⟨hb,rfl⟩⟩
   ·rename_i sz l tl hb
    split at he
    ·rename_i hc
     split at he
     ·rename_i h2 hr
      cases he;exact⟨gf,b,hg,hB,rfl,rfl, .inr ⟨sz,l,tl,hb,hc.1,hc.2.1,hc.2.2.1,hc.2.2.2.1,hc.2.2.2.2.1,hc.2.2.2.2.2.1,hc.2.2.2.2.2.2,hr⟩⟩
     ·cases he
    ·cases he
   ·cases he
  ·cases he
 ·cases he
theorem exec_wp(hS:Smet E.P E.S)(hC:COK E)(hB:BOK E)(hcall:CallOK E call)(hmix:E.P.follows .mixedOrders=true){A:Area}: ∀(c:Code) (rd:Option Nat) (nn:Nat) (τ:Fr) (h:H) (x:X) (τ':Fr) (h':H) (ρ:Rho) (w:World) (a:Act),(rd=none∨noRF c=true)→
  exec E f call N c τ h= .ok (x,τ',h')→St E A ρ w a τ (view h) N s0→c.wpIn (fw rd) nn E.P (Post E A N s0 ρ w h x τ' h') a w:=by
 intro c
 induction c with
 |skip=>
  intro rd nn τ h x τ' h' ρ w a hrd he hs;cases he;exact wpIn_skip ⟨rfl,ρ,Ext.refl _ _ _,hs⟩
 |label l=>
  intro rd nn τ h x τ' h' ρ w a hrd he hs;cases he;exact wpIn_label ⟨rfl,ρ,Ext.refl _ _ _,hs⟩
 |region id ops draw=>
  intro rd nn τ h x τ' h' ρ w a hrd he hs;simp only[exec]at he;rw[regionP_eq]at he;obtain⟨⟨τ1,h1⟩,hr,he⟩:=R.bind_ok he;cases he;exact regionA_wp hS hC hcall hmix hr hs (fun a' w' ρ' hx hst=>⟨rfl,ρ',hx,hst⟩)
 |seq c d ihc ihd=>
  intro rd nn τ h x τ' h' ρ w a hrd he hs;simp only[exec]at he
  refine wpIn_seq ?_
  cases hc:exec E f call N c τ h with
  |no s=>rw [hc]at he;cases he
  |ok r=>
   obtain⟨x1,τ1,h1⟩:=r;rw[hc]at he
   refine wpIn_mono (ihc rd nn τ h x1 τ1 h1 ρ w a (hrd.imp (fun y=>y) fun h=>by simp only[noRF,Bool.and_eq_true]at h;exact h.1) hc hs) ?_
   rintro e a1 w1 ⟨rfl,ρ1,hx1,hst1⟩
   cases x1 with
   |normal=>
    simp only at he;exact wpIn_mono (ihd rd nn τ1 h1 x τ' h' ρ1 w1 a1 (hrd.imp (fun y=>y) fun h=>by simp only[noRF,Bool.and_eq_true]at h;exact h.2) he hst1) (fun e a2 w2 hp=>hp.from hx1)
   |ret=>simp only at he;cases he;exact⟨rfl,ρ1,hx1,hst1⟩
   |exit id=>simp only at he;cases he;exact⟨rfl,ρ1,hx1,hst1⟩
 |cond c d e ihd ihe=>
  intro rd nn τ h x τ' h' ρ w a hrd he hs;simp only[exec]at he
  cases hc:ev E τ c with
  |no s=>rw [hc]at he;cases he
  |ok v=>
   rw[hc]at he
   have hcr:=ev_cr hs.fr hs.hr.glob' hc
   cases v with
   |bool b=>
    have hb:=toV_eq (x:= .bool b) (by rfl) hcr
    cases b with
    |true=>simp only at he;exact wpIn_cond_true hb (ihd rd nn τ h x τ' h' ρ w a (hrd.imp (fun y=>y) fun h=>by simp only[noRF,Bool.and_eq_true]at h;exact h.1) he hs)
    |false=>simp only at he;exact wpIn_cond_false hb (ihe rd nn τ h x τ' h' ρ w a (hrd.imp (fun y=>y) fun h=>by simp only[noRF,Bool.and_eq_true]at h;exact h.2) he hs)
   |_=>cases he
 |block id c ih=>
  intro rd nn τ h x τ' h' ρ w a hrd he hs;simp only[exec]at he
  refine wpIn_block ?_
  cases hc:exec E f call N c τ h with
  |no s=>rw [hc]at he;cases he
  |ok r=>
   obtain⟨x1,τ1,h1⟩:=r;rw[hc]at he
   refine wpIn_mono (ih rd nn τ h x1 τ1 h1 ρ w a (hrd.imp (fun y=>y) fun h=>by simpa only [noRF]using h) hc hs) ?_
   rintro e a1 w1 ⟨rfl,ρ1,hx1,hst1⟩
   cases x1 with
   |normal=>simp only at he;cases he;exact⟨rfl,ρ1,hx1,hst1⟩
   |ret=>simp only at he;cases he;exact⟨rfl,ρ1,hx1,hst1⟩
   |exit i=>
    simp only at he;cases he;simp only[X.exit',Exit.inBlock]
    by_cases hi:i=id
    ·rw[if_pos hi];rw[if_pos hi];exact⟨rfl,ρ1,hx1,hst1⟩
    ·rw[if_neg hi];rw[if_neg hi];exact⟨rfl,ρ1,hx1,hst1⟩
 |loop c ih=>
  intro rd nn τ h x τ' h' ρ w a hrd he hs;simp only[exec]at he;exact iter_wp (fun τ h x τ' h' ρ w a hg hst=>ih rd nn τ h x τ' h' ρ w a (hrd.imp (fun y=>y) fun h=>by simpa only [noRF]using h) hg hst) E.M τ h ρ w a he hs
 |exit i=>
  intro rd nn τ h x τ' h' ρ w a hrd he hs;cases he;exact wpIn_exit ⟨rfl,ρ,Ext.refl _ _ _,hs⟩
 |ret=>
  intro rd nn τ h x τ' h' ρ w a hrd he hs;cases he;exact wpIn_ret ⟨rfl,ρ,Ext.refl _ _ _,hs⟩
 |rangeFunc g ps assign body iha ihb=>
  intro rd nn τ h x τ' h' ρ w a hrd he hs;obtain rfl:rd=none:=hrd.resolve_right (by simp[noRF]);obtain⟨gf,b,hg,hBg,rfl,hττ,hcase⟩:=exec_range he;obtain rfl:τ=τ':=hττ.symm
  have hcg:=ev_cr hs.fr hs.hr.glob' hg
  obtain⟨ug,hug⟩: ∃u,a.eval g=u:=⟨_,rfl⟩;rw[hug]at hcg;obtain⟨Bb,rfl,hρb⟩:=clo_box hcg;obtain⟨hen,hback⟩:=hB gf hBg;refine wpIn_rangeFunc (fun fn _=>?_)
  obtain⟨rec,hrec⟩: ∃rec:LoopState→Loop,rec=fun st=>{state:=st,pending:=none,fn,tmps:=a.tmps,params:=ps,assign,body,defers:=w.heap.size}:=⟨_,rfl⟩
  obtain⟨W1,hW1⟩: ∃W1,(w.alloc (.deferred (some []))).alloc (.loop (rec .ready))=W1:=⟨_,rfl⟩
  have hL1:W1.heap[w.heap.size+1]?=some (.loop (rec .ready)):=by
   rw[←hW1];have:=World.alloc_heap_new (w.alloc (.deferred (some []))) (.loop (rec .ready));rwa [World.size_alloc]at this
  obtain⟨hrA,hxA⟩:=hs.hr.push (w':=w.alloc (.deferred (some []))) rfl ⟨rfl,rfl,rfl⟩;obtain⟨hrB,hxB⟩:=hrA.push (w':=W1) (by rw[←hW1];rfl) (by rw[←hW1];exact⟨rfl,rfl,rfl⟩)
  have hx1:=hxA.trans hxB
  have hK1:W1.heap[w.heap.size]?=some (.deferred (some [])):=by
   have:=hxB.keepo w.heap.size (by simp) (fun off ho=>by
    obtain⟨b',k',y,h1,h2,h3,h4⟩:=ho
    have:=hs.hr.lt h1;omega)
   rw[this];exact World.alloc_heap_new w _
  have hno: ∀B,w.heap.size≤B→ ∀off,¬Own ρ (view h) B off:=fun B hB off ho=>by
   obtain⟨b',k',y,h1,h2,h3,h4⟩:=ho;have:=hs.hr.lt h1;omega
  refine⟨w.heap.size+1,[{target:= .collected w.heap.size,args:= #[]}],W1,{target:= .fn (.func gf) #[.pointer (some ⟨Bb,0,none⟩)],args:= #[.func (.yield (w.heap.size+1)) #[] #[]]},W1,gf,
   #[.func (.yield (w.heap.size+1)) #[] #[]]++ #[.pointer (some ⟨Bb,0,none⟩)],W1,?_,?_,fun _ _=>trivial,?_,fun h=>?_,?_⟩
  ·rw[←hW1,hrec];exact run_enterLoop_outer _ _ _ _ _
  ·simp only[resolve,rangeCall,hug]
   simp[go_sem,hug]
  ·simp[invoke,go_sem,hen]
  ·simp[fw,Fence.wide]at h
  ·show CallsIn Fence.wide _ _ _ _ _ _
   -- behind the loop
   have fin: ∀(h2:H) (ρ2:Rho) (W2:World),Ext (Own ρ (view h)) ρ w (Own ρ2 (view h2)) ρ2 W2→HR E.G A ρ2 W2 (view h2)→W2.heap[w.heap.size+1]?=some (.loop (rec .ready))→W2.heap[w.heap.size]?=some (.deferred (some []))→
     (∀off,¬Own ρ2 (view h2) w.heap.size off)→h'=h2→ ∃jump w4,(Instr.endLoop (w.heap.size+1)).run E.P W2= .ok jump w4∧(match jump with
      |none=>Post E A N s0 ρ w h .normal τ h' .normal {a with defers:= [{target:= .collected w.heap.size,args:= #[]}]++a.defers} w4
      |some c=>c.wpIn (fw none) nn E.P (Post E A N s0 ρ w h .normal τ h') {a with defers:= [{target:= .collected w.heap.size,args:= #[]}]++a.defers} w4):=by
    rintro h2 ρ2 W2 hx2 hr2 hl2 hk2 ho2 rfl;have he:=run_endLoop (P:=E.P) hl2 (by rw[hrec];simp)
    refine⟨none,W2.putObj (w.heap.size+1) (.loop {rec .ready with state:= .exhausted}),by rw[hrec]at he ⊢;exact he,rfl,ρ2,hx2.putObj (by omega),hr2.putObj hl2 ⟨by simp,by simp⟩,fun t=>((hs.fr t).ext hx2).mono (fun _ _ h=>h) (keeps_putObj hl2 ⟨by simp,by simp⟩),hs.sz,?_⟩
    have hd:=hs.de.ext hx2
    refine⟨by have:=hd.1;simpa using this,?_,fun d hdm=>?_⟩
    ·rw[List.singleton_append,List.nodup_cons]
     refine⟨fun hm=>?_,hd.2.1⟩;obtain⟨D,e1,e2,e3,e4⟩:=hs.de.2.2 _ hm
     have:w.heap.size=D:=by simpa using e1
     have:=lt_of_get e3;omega
    ·have other: ∀D,D≠w.heap.size+1→W2.heap[D]?=some (.deferred (some []))→(W2.putObj (w.heap.size+1) (.loop {rec .ready with state:= .exhausted})).heap[D]?=some (.deferred (some [])):=fun D hD h=>by rw[World.putObj_heap_other hD];exact h
     rcases List.mem_cons.1 hdm with rfl|hdm
     ·exact⟨w.heap.size,rfl,hs.de.1,other _ (by omega) hk2,ho2⟩
     ·obtain⟨D,e1,e2,e3,e4⟩:=hd.2.2 _ hdm
      exact⟨D,e1,e2,other D (fun e=>by rw[e,hl2]at e3;cases e3) e3,e4⟩
   rcases hcase with⟨hnil,rfl⟩|⟨sz,l,tl,hlst,rfl,hln,hps,hpN,hlf,hna,hnb,hrounds⟩
   ·--nil:no round
    obtain⟨B',k',h1,h2,_,cs,e,fz,h3,_,h4⟩:=hrB.blk b _ hnil nofun;rw[hρb]at h1;cases h1
    have hcell:W1.cell? ⟨Bb,0,none⟩=some (.slice none 0 0):=by
     obtain⟨v,hv,hc⟩:=h4.get (j:=0) (y:= .nils) rfl;cases hc;rw[Array.getElem?_toList]at hv;simp[World.cell?,h3,hv]
    have:=hback (w.heap.size+1) Bb 0 (fun k W=>k=0∧W=W1) W1 (by omega) (fun k W ⟨_,hW⟩ _=>⟨none,0,by rw[hW];exact hcell⟩) (fun k W _ hk=>by omega) ⟨rfl,rfl⟩
    refine CallsIn.mono (callsIn_wide.2 (callsIn_wide.1 this)) ?_
    rintro e W2 ⟨⟨v,rfl⟩,_,rfl⟩;exact fin _ ρ _ hx1 hrB hL1 hK1 (hno _ (Nat.le_refl _)) rfl
   ·--the rounds
    obtain⟨hk,r1,r2,r3⟩:=rounds_spec hrounds;rw[backL_length]at r2
    have hbackl: ∀k,k<l.length→ ∃x,l[l.length-1-k]?=some x∧(backL l)[k]?=some (l.length-1-k,x):=fun k hk=>backL_get hk
    obtain⟨RS,hRS⟩: ∃RS:Nat→World→Prop,RS=fun k W=> ∃ρ2,Ext (Own ρ (view h)) ρ w (Own ρ2 (view (hk k))) ρ2 W∧HR E.G A ρ2 W (view (hk k))∧W.heap[w.heap.size+1]?=some (.loop (rec .ready))∧W.heap[w.heap.size]?=some (.deferred (some []))∧
      (∀off,¬Own ρ2 (view (hk k)) w.heap.size off)∧(∀off,¬Own ρ2 (view (hk k)) (w.heap.size+1) off):=⟨_,rfl⟩
    -- what the box holds
    have box: ∀k W ρ2,(hk k)[b]?=some (.var [.lst 1 l tl])→Ext (Own ρ (view h)) ρ w (Own ρ2 (view (hk k))) ρ2 W→HR E.G A ρ2 W (view (hk k))→ ∃base c,W.cell? ⟨Bb,0,none⟩=some (.slice base l.length c)∧
      ∀i y,l[i]?=some y→ ∃B o v,base=some ⟨B,o,none⟩∧W.cell? ⟨B,o+i,none⟩=some v∧CR (Forb A ρ2 (view (hk k))) ρ2 W v y:=by
     intro k W ρ2 hb hx hr;obtain⟨B',k',h1,h2,_,cs,e,fz,h3,_,h4⟩:=hr.blk b _ hb nofun;rw[hx.sub _ _ hρb]at h1;cases h1;obtain⟨v,hv,hc⟩:=h4.get (j:=0) (y:= .lst 1 l tl) rfl;rw[Array.getElem?_toList]at hv
     by_cases hvn: ∃b,v= .slice b 0 0
     ·obtain⟨b0,rfl⟩:=hvn
      have hl0:l.length=0:=by
       cases hc with
       |lst0=>rfl
       |lst _ hn=>exact hn.symm
      exact⟨b0,0,by simp[World.cell?,h3,hv,hl0],fun i y hy=>by have:=lt_of_getl hy;omega⟩
     obtain⟨B,o,c,cs2,e2,fz2,rfl,g1,g2,g3,_⟩:=hc.lst_inv (.inl fun b e=>hvn ⟨b,e⟩);refine⟨some ⟨B,o,none⟩,c,by simp[World.cell?,h3,hv],fun i y hy=>?_⟩
     have hleaf:=List.all_eq_true.1 hlf y (List.mem_of_getElem? hy)
     have hyc:y.cells= [y]:=leaf_cells hleaf;have hf:=flat_get g3.1 hy (j:=0) (by omega);rw[hyc]at hf;simp only[Nat.mul_one,Nat.add_zero,List.getElem?_cons_zero]at hf;obtain⟨u,hu,hcu⟩:=g3.2.get hf;rw[List.getElem?_take]at hu;split at hu
     ·rw[List.getElem?_drop,Array.getElem?_toList]at hu
      exact⟨B,o,u,rfl,by simp[World.cell?,g1,hu],hcu⟩
     ·cases hu
    have:=hback (w.heap.size+1) Bb l.length RS W1 hln ?_ ?_ ?_
    ·refine CallsIn.mono (callsIn_wide.2 (callsIn_wide.1 this)) ?_
     rintro e W2 ⟨⟨v,rfl⟩,hJ⟩;rw[hRS]at hJ;obtain⟨ρ2,g1,g2,g3,g4,g5,g6⟩:=hJ;exact fin _ ρ2 _ g1 g2 g3 g4 g5 r2.symm
    ·--the box
     intro k W hJ hcond;rw[hRS]at hJ;obtain⟨ρ2,g1,g2,_⟩:=hJ
     have hbk:(hk k)[b]?=some (.var [.lst 1 l tl]):=by
      rcases hcond with hlt|rfl
      ·obtain⟨x,_,hx⟩:=hbackl k hlt
       exact(r3 k _ x hx).1
      ·rw[r1];exact hlst
     obtain⟨base,c,hc,_⟩:=box k W ρ2 hbk g1 g2;exact⟨base,c,hc⟩
    ·--one round
     intro k W hJ hlt;rw[hRS]at hJ;obtain⟨ρ2,g1,g2,g3,g4,g5,g6⟩:=hJ;obtain⟨x,hxl,hx⟩:=hbackl k hlt;obtain⟨hbk,τ1,h1,τ2,hga,hgb⟩:=r3 k _ x hx;obtain⟨base,c,hc,hel⟩:=box k W ρ2 hbk g1 g2;obtain⟨B,o,v,rfl,hv,hcv⟩:=hel _ x hxl;refine⟨B,o,c,v,hc,hv,?_⟩;have hlW:w.heap.size+1<W.heap.size:=lt_of_get g3;have hy:=run_yield (P:=E.P) (args:= #[.int .i64 ((l.length-1-k:Nat):Int),v]) g3 (by rw[hrec];simp[hps]);rw[hrec]at hy
     have hst0:St E A ρ2 W {tmps:=(ps.zip #[.int .i64 ((l.length-1-k:Nat):Int),v]).foldl (fun t (p,v)=>t.setIfInBounds p v) a.tmps,defers:= []} (setPs τ ps.toList [.int .i64 ((l.length-1-k:Nat):Int),x]) (view (hk k)) N s0:=by
      have hf0:=hs.fr.ext g1
      obtain⟨p1,p2,rfl⟩: ∃p1 p2,ps= #[p1,p2]:=by
       obtain⟨pl⟩:=ps
       match pl,hps with
       | [p1,p2],_=>exact⟨p1,p2,rfl⟩
      simp only[List.all_cons,List.all_nil,Bool.and_true,Bool.and_eq_true,decide_eq_true_eq]at hpN
      have hz:(#[p1,p2].zip #[Value.int .i64 ((l.length-1-k:Nat):Int),v])= #[(p1, .int .i64 ((l.length-1-k:Nat):Int)),(p2,v)]:=by simp
      refine⟨g2,?_,?_,DeOK.nil (Nat.le_trans hs.de.1 g1.size)⟩
      ·rw[hz]
       have f1:=hf0.put (a:=a) hs.sz (dst:=some p1) (v:= .int .i64 ((l.length-1-k:Nat):Int)) (y:= .int .i64 ((l.length-1-k:Nat):Int)) (.int _ _) (τ':=upd τ p1 (.int .i64 ((l.length-1-k:Nat):Int))) (by simp[putA_some,hpN.1]);exact f1.put (N:=N) (a:=a.put (some p1) (.int .i64 ((l.length-1-k:Nat):Int))) (by rw[put_size];exact hs.sz) (dst:=some p2) hcv (by simp[putA_some,hpN.2,setPs])
      ·rw[hz];simp[hs.sz]
     refine⟨fn,_,assign,body,hy,roundIn_of_wpIn (F:=Fence.wide) trivial (wpIn_mono (iha (some (w.heap.size+1)) 0 _ _ _ _ _ ρ2 W _ (.inr hna) hga hst0) ?_)⟩;rintro e a1 Wa ⟨rfl,ρ3,hx3,hs3⟩
     have k3:Wa.heap[w.heap.size+1]?=some (.loop (rec .ready)):=by rw[hx3.keepo _ hlW g6];exact g3
     have k4:Wa.heap[w.heap.size]?=some (.deferred (some [])):=by rw[hx3.keepo _ (by omega) g5];exact g4
     have k5: ∀off,¬Own ρ3 (view h1) w.heap.size off:=fun off ho=>by
      rcases hx3.new _ _ ho with h|h
      ·exact g5 off h
      ·omega
     have k6: ∀off,¬Own ρ3 (view h1) (w.heap.size+1) off:=fun off ho=>by
      rcases hx3.new _ _ ho with h|h
      ·exact g6 off h
      ·omega
     have hbeg:=run_beginRound (P:=E.P) k3 (by rw[hrec]);refine⟨_,hbeg,?_⟩;have hlt2:w.heap.size+1<Wa.heap.size:=lt_of_get k3
     have hst3:St E A ρ3 (Wa.putObj (w.heap.size+1) (.loop {rec .ready with state:= .busy})) a1 τ1 (view h1) N s0:=by
      refine⟨hs3.hr.putObj k3 ⟨by simp,by simp⟩,fun t=>(hs3.fr t).mono (fun _ _ h=>h) (keeps_putObj k3 ⟨by simp,by simp⟩),hs3.sz,by simpa using hs3.de.1,hs3.de.2.1,fun d hd=>?_⟩;obtain⟨D,e1,e2,e3,e4⟩:=hs3.de.2.2 d hd;exact⟨D,e1,e2,by rw[World.putObj_heap_other (fun e=>by rw[e,k3]at e3;cases e3)];exact e3,e4⟩
     refine wpIn_mono (ihb (some (w.heap.size+1)) 0 _ _ _ _ _ ρ3 _ a1 (.inr hnb) hgb hst3) ?_
     rintro e a4 Wb ⟨rfl,ρ4,hx4,hs4⟩;have hsame:(Wa.putObj (w.heap.size+1) (.loop {rec .ready with state:= .busy})).heap[w.heap.size+1]?=some (.loop {rec .ready with state:= .busy}):=World.putObj_heap_same hlt2
     have m3:Wb.heap[w.heap.size+1]?=some (.loop {rec .ready with state:= .busy}):=by rw[hx4.keepo _ (by simpa using hlt2) k6];exact hsame
     have m4:Wb.heap[w.heap.size]?=some (.deferred (some [])):=by
      rw[hx4.keepo _ (by simp;omega) k5,World.putObj_heap_other (by omega)];exact k4
     have hend:=run_endRound (P:=E.P) none m3;refine⟨_,_,hend,rfl,?_⟩;rw[hRS];refine⟨ρ4,((((g1.trans hx3).putObj (by omega)).trans hx4).putObj (by omega)),hs4.hr.putObj m3 ⟨by simp,by simp⟩,?_,?_,fun off ho=>?_,fun off ho=>?_⟩
     ·rw[World.putObj_heap_same (lt_of_get m3),hrec];simp
     ·rw[World.putObj_heap_other (by omega)];exact m4
     ·rcases hx4.new _ _ ho with h|h
      ·exact k5 off h
      ·simp at h;omega
     ·rcases hx4.new _ _ ho with h|h
      ·exact k6 off h
      ·simp at h;omega
    ·--ahead of the rounds
     rw[hRS];exact⟨ρ,by rw[r1];exact hx1,by rw[r1];exact hrB,hL1,hK1,by rw[r1];exact hno _ (Nat.le_refl _),by rw[r1];exact hno _ (by omega)⟩
 |_=>intro rd nn τ h x τ' h' ρ w a hrd he hs;cases he
theorem loadA_addr{P:Program}{h:H}{t:TypeId}{p y:AV}(hl:loadA P h t p= .ok y){F:Area}{ρ:Rho}{w:World}{v:Value}(hc:CR F ρ w v p): ∃ad,v= .pointer (some ad):=by
 cases hc<;>first|exact⟨_,rfl⟩|cases hl
def resOf(tmps:Array Value):ResultVar→Sem Value
 | .tmp t=>pure (tmps.getD t Go.undef)
 | .cell a t=>do loadVar t (←asAddr (tmps.getD a Go.undef))
theorem resOf_tmp(tmps:Array Value)(t:Tmp):resOf tmps (.tmp t)=pure (tmps.getD t Go.undef):=rfl
theorem resOf_cell(tmps:Array Value)(a:Tmp)(t:TypeId):resOf tmps (.cell a t)=(do loadVar t (←asAddr (tmps.getD a Go.undef))):=rfl
theorem results_eq(fn:Func)(tmps:Array Value):results fn tmps=(do let vs←fn.results.mapM (resOf tmps);pure (if h:vs.size=1 then vs[0]else .tuple vs)):=by
 unfold results
 congr 1
theorem resA_run{A:Area}{ρ:Rho}{w:World}{tmps:Array Value}{τ:Fr}{h:H}(hr:HR E.G A ρ w (view h))(hf:FRel (Forb A ρ (view h)) ρ w tmps τ): ∀{rs:List ResultVar} {ys:List AV},resA E τ h rs= .ok ys→
  ∃vs,(rs.mapM (resOf tmps)).run E.P w= .ok vs w∧CRs (Forb A ρ (view h)) ρ w vs ys
 | [],ys,hy=>by cases hy;exact⟨[],rfl, .nil⟩
 | .tmp t::rs,ys,hy=>by
   obtain⟨u,hu,hy⟩:=R.bind_ok hy;obtain⟨us,hus,hy⟩:=R.bind_ok hy;cases hy;obtain⟨vs,h1,h2⟩:=resA_run hr hf hus;have hft:=ev_cr (a:={tmps:=tmps,defers:= []}) hf hr.glob' hu;exact⟨tmps.getD t Go.undef::vs,by simp only[List.mapM_cons,Sem.run_bind,resOf_tmp,Sem.run_pure,Result.andThen_ok,h1], .cons hft h2⟩
 | .cell b t::rs,ys,hy=>by
   obtain⟨u,hu,hy⟩:=R.bind_ok hy;obtain⟨us,hus,hy⟩:=R.bind_ok hy;cases hy;obtain⟨vs,h1,h2⟩:=resA_run hr hf hus
   have hfb:=(hf b).resolve_left fun⟨sz,l,e⟩=>by rw[e]at hu;cases hu
   obtain⟨r,h3,h4⟩:=loadA_run (P:=E.P) hu hr (fun _ _=>rfl) hfb;obtain⟨ad,had⟩:=loadA_addr hu hfb;rw[had]at h3
   have h5:(loadVar t ad).run E.P w= .ok r w:=by simpa [Instr.loadAt,Instr.sureAddr]using h3
   refine⟨r::vs,?_, .cons h4 h2⟩;rw[List.mapM_cons]
   have h6:(asAddr (tmps.getD b Go.undef)).run E.P w= .ok ad w:=by rw[had];rfl
   simp only[resOf_cell,Sem.run_bind,h6,Sem.run_pure,Result.andThen_ok,h5,h1]
theorem init_frame{F:Area}{ρ:Rho}{w:World}{vs:Array Value}{args:List AV}(h:CRs F ρ w vs.toList args)(n:Nat):FRel F ρ w (vs++Array.replicate (n-vs.size) Go.undef) (initFr args):=by
 intro i
 have hl:vs.size=args.length:=by simpa using h.1
 simp only[initFr,Array.getD_eq_getD_getElem?,List.getD_eq_getElem?_getD]
 rcases Nat.lt_or_ge i vs.size with hi|hi
 ·rw[Array.getElem?_append_left hi]
  have h1:args[i]?=some args[i]:=List.getElem?_eq_getElem (by omega);obtain⟨v,hv,hc⟩:=h.get h1;rw[Array.getElem?_toList]at hv;rw[h1,hv];exact .inr hc
 ·rw[Array.getElem?_append_right hi,List.getElem?_eq_none (by omega)]
  have:((Array.replicate (n-vs.size) Go.undef)[i-vs.size]?).getD Go.undef=Go.undef:=by
   rw[Array.getElem?_replicate];split<;>rfl
  rw[this];exact .inr undef_cr
theorem leaves_ok{A:Area}{fn:Func}{ρ:Rho}{w:World}{O:Area}{ρ':Rho}{g:View}{tmps:Array Value}{τ:Fr}{R:Ending→World→Prop}{n:Nat}
  (fin: ∀w',HR E.G A ρ' w' g→FRel (Forb A ρ' g) ρ' w' tmps τ→Ext O ρ w (Own ρ' g) ρ' w'→ ∃v,(results fn tmps).run E.P w'= .ok v w'∧R (.returned v) w'):
  ∀(ds:List Deferred) (w':World),DeOK w.heap.size ds w' (Own ρ' g)→HR E.G A ρ' w' g→FRel (Forb A ρ' g) ρ' w' tmps τ→Ext O ρ w (Own ρ' g) ρ' w'→LeavesInM Fence.wide n E.P fn tmps R ds .returning w':=by
 intro ds
 induction ds with
 |nil=>intro w' _ hr hf hx;exact fin w' hr hf hx
 |cons d ds ih=>
  intro w' hd hr hf hx;obtain⟨D,rfl,h2,h3,h4⟩:=hd.2.2 d (List.mem_cons_self ..);refine⟨by simp, .inl ⟨D,_,rfl,run_takeDeferred h3,ih _ ⟨by simpa using hd.1,(List.nodup_cons.1 hd.2.1).2,fun d' hd'=>?_⟩ (hr.putObj h3 ⟨by simp,by simp⟩) (fun t=>(hf t).mono (fun _ _ h=>h) (keeps_putObj h3 ⟨by simp,by simp⟩)) (hx.putObj h2)⟩⟩;obtain⟨D',rfl,k2,k3,k4⟩:=hd.2.2 d' (List.mem_cons_of_mem _ hd')
  have hne:D≠D':=fun h=>(List.nodup_cons.1 hd.2.1).1 (h▸hd')
  refine⟨D',rfl,k2,?_,k4⟩;simp only[World.putObj];rw[Array.getElem?_setIfInBounds_ne hne];exact k3
theorem acall_ok(hS:Smet E.P E.S)(hC:COK E)(hB:BOK E)(hmix:E.P.follows .mixedOrders=true): ∀n,CallOK E (acall E n):=by
 intro n
 induction n with
 |zero=>intro f args h r h' hc;cases hc
 |succ n ih=>
  intro f args h r h' hc A ρ w vs hr hargs;simp only[acall]at hc
  cases hfn:E.P.funcs[f]? with
  |none=>simp [hfn]at hc
  |some fn=>
   simp only[hfn]at hc
   cases hb:fn.body with
   |none=>simp [hb]at hc
   |some c=>
    simp only[hb]at hc;split at hc
    ·cases hc
    ·rename_i hname
     refine⟨fun W=>?_,?_⟩
     ·unfold callFunc
      simp only[Sem.run_bind,run_program,Result.andThen_ok,hfn];rw[if_neg hname];simp[hb]
     ·cases he:exec E f (acall E n) (max fn.ntmps args.length) c (initFr args) h with
      |no s=>rw [he]at hc;cases hc
      |ok res=>
       obtain⟨x,τ,h1⟩:=res
       have hl:vs.size=args.length:=by simpa using hargs.1
       have hst:St E A ρ w {tmps:=vs++Array.replicate (fn.ntmps-vs.size) Go.undef,defers:= []} (initFr args) (view h) (max fn.ntmps args.length) w.heap.size:=
        ⟨hr,init_frame hargs fn.ntmps,by simp;omega,DeOK.nil (Nat.le_refl _)⟩
       have hw:=exec_wp hS hC hB ih hmix c none 0 (initFr args) h x τ h1 ρ w _ (.inl rfl) he hst
       rw[he]at hc;refine callsIn_wide.1 (callsIn_of_wp_marks (F:=Fence.wide) (n:=0) hfn hb trivial (wpIn_mono hw ?_) rfl);rintro e a' w2 ⟨rfl,ρ',hx2,hst2⟩
       have fin: ∀{r0:AV×H} (w':World),HR E.G A ρ' w' (view h1)→FRel (Forb A ρ' (view h1)) ρ' w' a'.tmps τ→Ext (Own ρ (view h)) ρ w (Own ρ' (view h1)) ρ' w'→((resA E τ h1 fn.results.toList).bind fun vs=>R.ok (match vs with| [v]=>v|vs=> .tup vs,h1))=R.ok r0→
         ∃v,(results fn a'.tmps).run E.P w'= .ok v w'∧(∃ρ',Ext (Own ρ (view h)) ρ w (Own ρ' (view h1)) ρ' w'∧HR E.G A ρ' w' (view h1)∧CR (Forb A ρ' (view h1)) ρ' w' v r0.1)∧r0.2=h1:=by
        intro r0 w' hr' hf' hx hc;obtain⟨ys,hys,hc⟩:=R.bind_ok hc;cases hc;obtain⟨us,h2,h3⟩:=resA_run hr' hf' hys;refine⟨if h:us.length=1 then us[0]else .tuple us.toArray,?_,⟨ρ',hx,hr',?_⟩,rfl⟩
        ·rw[results_eq,Sem.run_bind,Array.mapM_eq_mapM_toList,Sem.run_map,h2]
         simp only[Result.andThen_ok,Sem.run_pure]
         congr 1
        ·cases ys with
         |nil=>
          obtain rfl:=List.eq_nil_of_length_eq_zero h3.1;exact .tup_of .nil
         |cons y ys=>
          cases us with
          |nil=>have:=h3.1;simp at this
          |cons u us=>
           cases ys with
           |nil=>
            obtain rfl:us= []:=by have:=h3.1;simpa using this
            simpa using h3.head
           |cons y2 ys=>
            have hlen: ¬(u::us).length=1:=by have:=h3.1;simp at this ⊢;intro e;simp[e]at this
            rw[dif_neg hlen];exact .tup_of (by simpa using h3)
       cases x with
       |normal=>
        simp only at hc;refine leaves_ok (fun w' hr' hf' hx'=>?_) a'.defers w2 hst2.de hst2.hr hst2.fr hx2;obtain⟨v,k1,⟨ρ2,k2,k3,k4⟩,k5⟩:=fin w' hr' hf' hx' hc;obtain rfl:h'=h1:=k5;exact⟨v,k1,v,ρ2,rfl,k2,k3,k4⟩
       |ret=>
        simp only at hc;refine leaves_ok (fun w' hr' hf' hx'=>?_) a'.defers w2 hst2.de hst2.hr hst2.fr hx2;obtain⟨v,k1,⟨ρ2,k2,k3,k4⟩,k5⟩:=fin w' hr' hf' hx' hc;obtain rfl:h'=h1:=k5;exact⟨v,k1,v,ρ2,rfl,k2,k3,k4⟩
       |exit i=>cases hc
end
end Go.Proofs.YthnajefdiljneaaDoor.AM
namespace Go.Proofs.YthnajefdiljneaaDoor.AM
set_option linter.unusedVariables false
set_option linter.unusedSimpArgs false
set_option linter.unusedSectionVars false
noncomputable section
def bindF{α β:Type}(x:R α)(f:α→R β):R β:= @R.rec α (fun _=>R β) f (fun s=> .no s) x
def nthF{α:Type}(l:List α)(n:Nat):Option α:= @List.rec α (fun _=>Nat→Option α) (fun _=>none) (fun a _ ih n=> @Nat.rec (fun _=>Option α) (some a) (fun m _=>ih m) n) l n
def setF{α:Type}(l:List α)(n:Nat)(x:α):List α:= @List.rec α (fun _=>Nat→List α) (fun _=> []) (fun a t ih n=> @Nat.rec (fun _=>List α) (x::t) (fun m _=>a::ih m) n) l n
def lenF{α:Type}(l:List α):Nat:= @List.rec α (fun _=>Nat) 0 (fun _ _ n=>Nat.succ n) l
def appF{α:Type}(xs ys:List α):List α:= @List.rec α (fun _=>List α) ys (fun a _ ih=>a::ih) xs
def andF(a b:Bool):Bool:= @Bool.rec (fun _=>Bool) false b a
def iteF{α:Type}(b:Bool)(t e:α):α:= @Bool.rec (fun _=>α) e t b
def beqK(k k':IntKind):Bool:=Nat.beq (@IntKind.rec (fun _=>Nat) 0 1 2 3 4 5 6 7 k) (@IntKind.rec (fun _=>Nat) 0 1 2 3 4 5 6 7 k')
def limK(k:IntKind):Nat:= @IntKind.rec (fun _=>Nat) 127 32767 2147483647 9223372036854775807 255 65535 4294967295 18446744073709551615 k
def negK(k:IntKind):Bool:= @IntKind.rec (fun _=>Bool) true true true true false false false false k
def wrapF(k:IntKind)(n:Int):Int:= @Int.rec (fun _=>Int) (fun m=>iteF (Nat.ble m (limK k)) (.ofNat m) (k.wrap (.ofNat m))) (fun m=>iteF (andF (negK k) (Nat.ble m (limK k))) (.negSucc m) (k.wrap (.negSucc m))) n
def ltI(a b:Int):Bool:= @Int.rec (fun _=>Int→Bool) (fun m b=> @Int.rec (fun _=>Bool) (fun n=>Nat.ble (Nat.succ m) n) (fun _=>false) b) (fun m b=> @Int.rec (fun _=>Bool) (fun _=>true) (fun n=>Nat.ble (Nat.succ n) m) b) a b
def eqI(a b:Int):Bool:= @Int.rec (fun _=>Int→Bool) (fun m b=> @Int.rec (fun _=>Bool) (fun n=>Nat.beq m n) (fun _=>false) b) (fun m b=> @Int.rec (fun _=>Bool) (fun _=>false) (fun n=>Nat.beq m n) b) a b
def eqL(a b:List UInt8):Bool:= @List.rec UInt8 (fun _=>List UInt8→Bool) (fun b=> @List.rec UInt8 (fun _=>Bool) true (fun _ _ _=>false) b) (fun x _ ih b=> @List.rec UInt8 (fun _=>Bool) false (fun y ys _=>andF (Nat.beq x.toNat y.toNat) (ih ys)) b) a b
def eqS(a b:ByteArray):Bool:=eqL a.data.toList b.data.toList
def isTop(v:AV):Bool:= @AV.rec (fun _=>Bool) (fun _=>Unit) (fun _=>false) (fun _ _=>false) (fun _=>false) (false) (fun _ _=>false) (fun _ _ _ _=>false) (fun _ _ _=>false) (false) (fun _ _ _ _ _=>false) (fun _ _ _ _=>false) (fun _ _ _ _=>false) (fun _ _ _=>true) (false) (fun _=>false) (false) (fun _ _ _ _ _=>false) (false) (fun _ _=>false) (fun _ _=>false) () (fun _ _ _ _=>()) v
def topF(v:AV):R AV:=iteF (isTop v) (.no "top") (.ok v)
def evF(E:Env)(τ:Fr)(x:Operand):R AV:= @Operand.rec (fun _=>Env→Fr→R AV) (fun t _ τ=>topF (τ t)) (fun v _ _=>lift "const" (ofV v)) (fun g E _=>lift "global" ((E.G g).map fun cs=> .fp cs 0)) (fun f _ _=> .ok (.clo f [] [])) x E τ
def evsF(E:Env)(τ:Fr)(l:List Operand):R (List AV):= @List.rec Operand (fun _=>R (List AV)) (.ok []) (fun x _ ih=>bindF (evF E τ x) fun v=>bindF ih fun vs=> .ok (v::vs)) l
def cellsF(v:AV):List AV:= @AV.rec (fun _=>AV→List AV) (fun _=>Unit) (fun _=>fun v=> [v]) (fun _ _=>fun v=> [v]) (fun _=>fun v=> [v]) (fun v=> [v]) (fun _ _=>fun v=> [v]) (fun _ _ _ _=>fun v=> [v]) (fun _ _ _=>fun v=> [v]) (fun v=> [v]) (fun _ _ _ _ _=>fun v=> [v]) (fun _ _ _ _=>fun v=> [v]) (fun _ _ _ _=>fun v=> [v]) (fun _ _ _=>fun v=> [v]) (fun v=> [v]) (fun _=>fun v=> [v]) (fun v=> [v]) (fun _ _ _ _ _=>fun v=> [v]) (fun v=> [v]) (fun cs _=>fun _=>cs) (fun _ _=>fun v=> [v]) () (fun _ _ _ _=>()) v v
def setsF(cs:List AV)(off:Nat)(l:List AV):List AV:= @List.rec AV (fun _=>List AV→Nat→List AV) (fun cs _=>cs) (fun v _ ih cs off=>ih (setF cs off v) (Nat.succ off)) l cs off
def takeF(l:List AV)(n:Nat):List AV:= @List.rec AV (fun _=>Nat→List AV) (fun _=> []) (fun a _ ih n=> @Nat.rec (fun _=>List AV) [] (fun m _=>a::ih m) n) l n
def dropF(l:List AV)(n:Nat):List AV:= @Nat.rec (fun _=>List AV→List AV) (fun l=>l) (fun _ ih l=> @List.rec AV (fun _=>List AV) [] (fun _ t _=>ih t) l) n l
def partT(P:Program)(t:TypeId):R (Option Nat):=(aggT P t).bind fun b=>if b then(size P t).bind fun s=> .ok (some s)else .ok none
def partF(P:Program)(t:TypeId)(cs:List AV)(off:Nat):R AV:=bindF (partT P t) fun q=> @Option.rec Nat (fun _=>R AV) (@Option.rec AV (fun _=>R AV) (.no "part") (fun v=> .ok v) (nthF cs off)) (fun s=>iteF (Nat.ble (Nat.add off s) (lenF cs)) (.ok (.agg (takeF (dropF cs off) s))) (.no "part")) q
def boolK{β:Type}(v:AV)(t e d:β):β:= @AV.rec (fun _=>β→β→β→β) (fun _=>Unit) (fun b=>fun t e _=>iteF b t e) (fun _ _=>fun _ _ d=>d) (fun _=>fun _ _ d=>d) (fun _ _ d=>d) (fun _ _=>fun _ _ d=>d) (fun _ _ _ _=>fun _ _ d=>d) (fun _ _ _=>fun _ _ d=>d) (fun _ _ d=>d) (fun _ _ _ _ _=>fun _ _ d=>d) (fun _ _ _ _=>fun _ _ d=>d) (fun _ _ _ _=>fun _ _ d=>d) (fun _ _ _=>fun _ _ d=>d) (fun _ _ d=>d) (fun _=>fun _ _ d=>d) (fun _ _ d=>d) (fun _ _ _ _ _=>fun _ _ d=>d) (fun _ _ d=>d) (fun _ _=>fun _ _ d=>d) (fun _ _=>fun _ _ d=>d) () (fun _ _ _ _=>()) v t e d
def isNil(v:AV):Bool:= @AV.rec (fun _=>Bool) (fun _=>Unit) (fun _=>false) (fun _ _=>false) (fun _=>false) (true) (fun _ _=>false) (fun _ _ _ _=>false) (fun _ _ _=>false) (false) (fun _ _ _ _ _=>false) (fun _ _ _ _=>false) (fun _ _ _ _=>false) (fun _ _ _=>false) (false) (fun _=>false) (true) (fun _ _ _ _ _=>false) (true) (fun _ _=>false) (fun _ _=>false) () (fun _ _ _ _=>()) v
def intF(v:AV):R Int:= @AV.rec (fun _=>R Int) (fun _=>Unit) (fun _=> .no "int") (fun _ n=> .ok n) (fun _=> .no "int") (.no "int") (fun _ _=> .no "int") (fun _ _ _ _=> .no "int") (fun _ _ _=> .no "int") (.no "int") (fun _ _ _ _ _=> .no "int") (fun _ _ _ _=> .no "int") (fun _ _ _ _=> .no "int") (fun _ _ _=> .no "int") (.no "int") (fun _=> .no "int") (.no "int") (fun _ _ _ _ _=> .no "int") (.no "int") (fun _ _=> .no "int") (fun _ _=> .no "int") () (fun _ _ _ _=>()) v
def intsF(op:BinOp)(k:IntKind)(a b:Int)(d:R AV):R AV:= @BinOp.rec (fun _=>IntKind→Int→Int→R AV→R AV) (fun k a b _=> .ok (.int k (wrapF k (Int.add a b)))) (fun k a b _=> .ok (.int k (wrapF k (Int.sub a b)))) (fun _ _ _ d=>d) (fun _ _ _ d=>d) (fun _ _ _ d=>d) (fun _ _ _ d=>d) (fun _ _ _ d=>d) (fun _ _ _ d=>d) (fun _ _ _ d=>d) (fun _ _ _ d=>d) (fun _ _ _ d=>d) (fun _ a b _=> .ok (.bool (eqI a b))) (fun _ a b _=> .ok (.bool (iteF (eqI a b) false true))) (fun _ a b _=> .ok (.bool (ltI a b))) (fun _ a b _=> .ok (.bool (iteF (ltI b a) false true))) (fun _ a b _=> .ok (.bool (ltI b a))) (fun _ a b _=> .ok (.bool (iteF (ltI a b) false true))) op k a b d
def strsF(op:BinOp)(a b:ByteArray)(d:R AV):R AV:= @BinOp.rec (fun _=>ByteArray→ByteArray→R AV→R AV) (fun _ _ d=>d) (fun _ _ d=>d) (fun _ _ d=>d) (fun _ _ d=>d) (fun _ _ d=>d) (fun _ _ d=>d) (fun _ _ d=>d) (fun _ _ d=>d) (fun _ _ d=>d) (fun _ _ d=>d) (fun _ _ d=>d) (fun a b _=> .ok (.bool (eqS a b))) (fun a b _=> .ok (.bool (iteF (eqS a b) false true))) (fun _ _ d=>d) (fun _ _ d=>d) (fun _ _ d=>d) (fun _ _ d=>d) op a b d
def binF(P:Program)(S:TypeId→Bool)(op:BinOp)(t:TypeId)(x y:AV):R AV:= @AV.rec (fun _=>BinOp→AV→R AV→R AV) (fun _=>Unit) (fun _=>fun _ _ d=>d) (fun k a=>fun op y d=>(@AV.rec (fun _=>BinOp→IntKind→Int→R AV→R AV) (fun _=>Unit) (fun _=>fun _ _ _ d=>d) (fun k' b=>fun op k a d=>iteF (beqK k k') (intsF op k a b d) d) (fun _=>fun _ _ _ d=>d) (fun _ _ _ d=>d) (fun _ _=>fun _ _ _ d=>d) (fun _ _ _ _=>fun _ _ _ d=>d) (fun _ _ _=>fun _ _ _ d=>d) (fun _ _ _ d=>d) (fun _ _ _ _ _=>fun _ _ _ d=>d) (fun _ _ _ _=>fun _ _ _ d=>d) (fun _ _ _ _=>fun _ _ _ d=>d) (fun _ _ _=>fun _ _ _ d=>d) (fun _ _ _ d=>d) (fun _=>fun _ _ _ d=>d) (fun _ _ _ d=>d) (fun _ _ _ _ _=>fun _ _ _ d=>d) (fun _ _ _ d=>d) (fun _ _=>fun _ _ _ d=>d) (fun _ _=>fun _ _ _ d=>d) () (fun _ _ _ _=>()) y) op k a d) (fun a=>fun op y d=>(@AV.rec (fun _=>BinOp→ByteArray→R AV→R AV) (fun _=>Unit) (fun _=>fun _ _ d=>d) (fun _ _=>fun _ _ d=>d) (fun b=>fun op a d=>strsF op a b d) (fun _ _ d=>d) (fun _ _=>fun _ _ d=>d) (fun _ _ _ _=>fun _ _ d=>d) (fun _ _ _=>fun _ _ d=>d) (fun _ _ d=>d) (fun _ _ _ _ _=>fun _ _ d=>d) (fun _ _ _ _=>fun _ _ d=>d) (fun _ _ _ _=>fun _ _ d=>d) (fun _ _ _=>fun _ _ d=>d) (fun _ _ d=>d) (fun _=>fun _ _ d=>d) (fun _ _ d=>d) (fun _ _ _ _ _=>fun _ _ d=>d) (fun _ _ d=>d) (fun _ _=>fun _ _ d=>d) (fun _ _=>fun _ _ d=>d) () (fun _ _ _ _=>()) y) op a d) (fun _ _ d=>d) (fun _ _=>fun _ _ d=>d) (fun _ _ _ _=>fun _ _ d=>d) (fun _ _ _=>fun _ _ d=>d) (fun _ _ d=>d) (fun _ _ _ _ _=>fun _ _ d=>d) (fun _ _ _ _=>fun _ _ d=>d) (fun _ _ _ _=>fun _ _ d=>d) (fun _ _ _=>fun _ _ d=>d) (fun _ _ d=>d) (fun _=>fun _ _ d=>d) (fun _ _ d=>d) (fun _ _ _ _ _=>fun _ _ d=>d) (fun _ _ d=>d) (fun _ _=>fun _ _ d=>d) (fun _ _=>fun _ _ d=>d) () (fun _ _ _ _=>()) x op y (binA P S op t x y)
def notF(op:UnOp)(a:AV)(d:R AV):R AV:= @UnOp.rec (fun _=>AV→R AV→R AV) (fun _ d=>d) (fun _ d=>d) (fun a d=> @AV.rec (fun _=>R AV→R AV) (fun _=>Unit) (fun b=>fun _=> .ok (.bool (iteF b false true))) (fun _ _=>fun d=>d) (fun _=>fun d=>d) (fun d=>d) (fun _ _=>fun d=>d) (fun _ _ _ _=>fun d=>d) (fun _ _ _=>fun d=>d) (fun d=>d) (fun _ _ _ _ _=>fun d=>d) (fun _ _ _ _=>fun d=>d) (fun _ _ _ _=>fun d=>d) (fun _ _ _=>fun d=>d) (fun d=>d) (fun _=>fun d=>d) (fun d=>d) (fun _ _ _ _ _=>fun d=>d) (fun d=>d) (fun _ _=>fun d=>d) (fun _ _=>fun d=>d) () (fun _ _ _ _=>()) a d) (fun _ d=>d) op a d
def fillAF(place:Nat→Option (Nat×Nat))(l:List (Nat×AV))(cells:List AV):R (List AV):= @List.rec (Nat×AV) (fun _=>List AV→R (List AV)) (fun cells=> .ok cells) (fun p _ ih cells=> @Option.rec (Nat×Nat) (fun _=>R (List AV)) (.no "fill") (fun q=>iteF (andF (Nat.beq (lenF (cellsF p.2)) q.2) (Nat.ble (Nat.add q.1 q.2) (lenF cells))) (ih (setsF cells q.1 (cellsF p.2))) (.no "fill: size")) (place p.1)) l cells
def buildT(P:Program)(t:TypeId):R (List AV×(Nat→Option (Nat×Nat))):=(zero P t).bind fun z=>(under P t).bind fun
 | .struct fs=>(sizesR P fs.toList).bind fun ps=> .ok (z.cells,fun i=>ps[i]?)
 | .array _ e=>(size P e).bind fun s=> .ok (z.cells,fun i=>some (i*s,s))
 |_=> .no "build"
def buildF(P:Program)(t:TypeId)(parts:List (Nat×AV)):R AV:=bindF (buildT P t) fun q=>bindF (fillAF q.2 parts q.1) fun cs=> .ok (.agg cs)
def zipF{α β:Type}(xs:List α)(ys:List β):List (α×β):= @List.rec α (fun _=>List β→List (α×β)) (fun _=> []) (fun x _ ih ys=> @List.rec β (fun _=>List (α×β)) [] (fun y t _=>(x,y)::ih t) ys) xs ys
def fieldTy(P:Program)(t:TypeId)(f:Nat):R (TypeId×Nat):=(under P t).bind fun
 | .struct fs=>(lift "field" fs[f]?).bind fun fd=> .ok (fd.type,fd.offset)
 |_=> .no "field"
def faddrT(P:Program)(t:TypeId)(f:Nat):R Nat:=(under P t).bind fun
 | .struct fs=>(lift "field" fs[f]?).bind fun fd=>(size P fd.type).bind fun z=>if z=0 then .no "field: size" else .ok fd.offset
 |_=> .no "fieldAddr"
def atF(p:AV)(d:Nat):R AV:= @AV.rec (fun _=>Nat→R AV) (fun _=>Unit) (fun _=>fun _=> .no "fieldAddr") (fun _ _=>fun _=> .no "fieldAddr") (fun _=>fun _=> .no "fieldAddr") (fun _=> .no "fieldAddr") (fun b off=>fun d=> .ok (.ptr b (Nat.add off d))) (fun b i sz off=>fun d=> .ok (.eptr b i sz (Nat.add off d))) (fun cs off _=>fun d=> .ok (.fp cs (Nat.add off d))) (fun _=> .no "fieldAddr") (fun _ _ _ _ _=>fun _=> .no "fieldAddr") (fun _ _ _ _=>fun _=> .no "fieldAddr") (fun _ _ _ _=>fun _=> .no "fieldAddr") (fun _ _ _=>fun _=> .no "fieldAddr") (fun _=> .no "fieldAddr") (fun _=>fun _=> .no "fieldAddr") (fun _=> .no "fieldAddr") (fun _ _ _ _ _=>fun _=> .no "fieldAddr") (fun _=> .no "fieldAddr") (fun _ _=>fun _=> .no "fieldAddr") (fun _ _=>fun _=> .no "fieldAddr") () (fun _ _ _ _=>()) p d
def fieldF(P:Program)(t:TypeId)(v:AV)(f:Nat):R AV:=bindF (fieldTy P t f) fun q=> @AV.rec (fun _=>Program→TypeId×Nat→R AV) (fun _=>Unit) (fun _=>fun _ _=> .no "field") (fun _ _=>fun _ _=> .no "field") (fun _=>fun _ _=> .no "field") (fun _ _=> .no "field") (fun _ _=>fun _ _=> .no "field") (fun _ _ _ _=>fun _ _=> .no "field") (fun _ _ _=>fun _ _=> .no "field") (fun _ _=> .no "field") (fun _ _ _ _ _=>fun _ _=> .no "field") (fun _ _ _ _=>fun _ _=> .no "field") (fun _ _ _ _=>fun _ _=> .no "field") (fun _ _ _=>fun _ _=> .no "field") (fun _ _=> .no "field") (fun _=>fun _ _=> .no "field") (fun _ _=> .no "field") (fun _ _ _ _ _=>fun _ _=> .no "field") (fun _ _=> .no "field") (fun cs _=>fun P q=>partF P q.1 cs q.2) (fun _ _=>fun _ _=> .no "field") () (fun _ _ _ _=>()) v P q
def idxT(P:Program)(t:TypeId):R (Nat×Option Nat):=(under P t).bind fun
 | .slice e=>(size P e).bind fun s=> .ok (s,none)
 | .array n e=>(size P e).bind fun s=> .ok (s,some n)
 |_=> .no "index"
def idxSlow(x:AV)(i:Int)(s:Nat):R AV:=(lenA x).bind fun n=>if 0≤i∧i<n∧szA x s then(match x with
    | .lst _ l _=>match l[i.toNat]? with|some v=> .ok (.fp v.cells 0)|none=> .no "index"
    | .sl b off _ sz _=> .ok (.eptr b (off+i.toNat) sz 0)
    | .vsl b off _ _=> .ok (.ptr b (off+i.toNat))
    |_=> .no "index")else .no "index: bounds"
def natK{β:Type}(i:Int)(k:Nat→β)(d:β):β:= @Int.rec (fun _=>β) k (fun _=>d) i
def idxSl(x:AV)(i:Int)(s:Nat):R AV:= @AV.rec (fun _=>Int→Nat→R AV→R AV) (fun _=>Unit) (fun _=>fun _ _ d=>d) (fun _ _=>fun _ _ d=>d) (fun _=>fun _ _ d=>d) (fun _ _ d=>d) (fun _ _=>fun _ _ d=>d) (fun _ _ _ _=>fun _ _ d=>d) (fun _ _ _=>fun _ _ d=>d) (fun _ _ d=>d) (fun b off len sz _=>fun i s _=>natK i (fun m=>iteF (andF (Nat.ble (Nat.succ m) len) (Nat.beq sz s)) (.ok (.eptr b (Nat.add off m) sz 0)) (.no "index: bounds")) (.no "index: bounds")) (fun _ _ _ _=>fun _ _ d=>d) (fun sz l _ _=>fun i s _=>natK i (fun m=> @Option.rec AV (fun _=>R AV) (.no "index: bounds") (fun v=>iteF (Nat.beq sz s) (.ok (.fp (cellsF v) 0)) (.no "index: bounds")) (nthF l m)) (.no "index: bounds")) (fun _ _ _=>fun _ _ d=>d) (fun _ _ d=>d) (fun _=>fun _ _ d=>d) (fun _ _ d=>d) (fun _ _ _ _ _=>fun _ _ d=>d) (fun _ _ d=>d) (fun _ _=>fun _ _ d=>d) (fun _ _=>fun _ _ d=>d) () (fun _ _ _ _=>()) x i s (idxSlow x i s)
def idxAr(x:AV)(i:Int)(s n:Nat):R AV:=if 0≤i∧i<n then(match x with
    | .ptr b off=> .ok (.ptr b (off+i.toNat*s))
    | .eptr b j sz off=> .ok (.eptr b j sz (off+i.toNat*s))
    | .fp cs off=> .ok (.fp cs (off+i.toNat*s))
    |_=> .no "index")else .no "index: bounds"
def idxF(P:Program)(t:TypeId)(x:AV)(i:Int):R AV:=bindF (idxT P t) fun q=> @Option.rec Nat (fun _=>R AV) (idxSl x i q.1) (fun n=>idxAr x i q.1 n) q.2
def strIdx(t:TypeId)(P:Program)(x i:AV)(d:R AV):R AV:= @AV.rec (fun _=>AV→R AV→R AV) (fun _=>Unit) (fun _=>fun _ d=>d) (fun _ _=>fun _ d=>d) (fun s=>fun i d=>(@AV.rec (fun _=>ByteArray→R AV→R AV) (fun _=>Unit) (fun _=>fun _ d=>d) (fun _ n=>fun s d=>natK n (fun m=> @Option.rec UInt8 (fun _=>R AV) d (fun c=> .ok (.int .u8 (.ofNat c.toNat))) (nthF s.data.toList m)) d) (fun _=>fun _ d=>d) (fun _ d=>d) (fun _ _=>fun _ d=>d) (fun _ _ _ _=>fun _ d=>d) (fun _ _ _=>fun _ d=>d) (fun _ d=>d) (fun _ _ _ _ _=>fun _ d=>d) (fun _ _ _ _=>fun _ d=>d) (fun _ _ _ _=>fun _ d=>d) (fun _ _ _=>fun _ d=>d) (fun _ d=>d) (fun _=>fun _ d=>d) (fun _ d=>d) (fun _ _ _ _ _=>fun _ d=>d) (fun _ d=>d) (fun _ _=>fun _ d=>d) (fun _ _=>fun _ d=>d) () (fun _ _ _ _=>()) i) s d) (fun _ d=>d) (fun _ _=>fun _ d=>d) (fun _ _ _ _=>fun _ d=>d) (fun _ _ _=>fun _ d=>d) (fun _ d=>d) (fun _ _ _ _ _=>fun _ d=>d) (fun _ _ _ _=>fun _ d=>d) (fun _ _ _ _=>fun _ d=>d) (fun _ _ _=>fun _ d=>d) (fun _ d=>d) (fun _=>fun _ d=>d) (fun _ d=>d) (fun _ _ _ _ _=>fun _ d=>d) (fun _ d=>d) (fun _ _=>fun _ d=>d) (fun _ _=>fun _ d=>d) () (fun _ _ _ _=>()) x i d
def isStrT(P:Program)(t:TypeId):Bool:=match P.underlying t with|some .string=>true|_=>false
def idxVSlow(P:Program)(t:TypeId)(x i:AV):R AV:=match x,i with
    | .str s, .int k n=>lift "index" ((pureRun P (Instr.index t (.string s) (.int k n))).bind ofV)
    | .agg cs, .int _ n=>(under P t).bind fun
      | .array len e=>(size P e).bind fun s=>if 0≤n∧n<len then partA P e cs (n.toNat*s)else .no "index: bounds"
      |_=> .no "index"
    |_,_=> .no "index"
def idxVF(P:Program)(t:TypeId)(x i:AV):R AV:=iteF (isStrT P t) (strIdx t P x i (idxVSlow P t x i)) (idxVSlow P t x i)
def extF(v:AV)(i:Nat):R AV:= @AV.rec (fun _=>Nat→R AV) (fun _=>Unit) (fun _=>fun _=> .no "extract") (fun _ _=>fun _=> .no "extract") (fun _=>fun _=> .no "extract") (fun _=> .no "extract") (fun _ _=>fun _=> .no "extract") (fun _ _ _ _=>fun _=> .no "extract") (fun _ _ _=>fun _=> .no "extract") (fun _=> .no "extract") (fun _ _ _ _ _=>fun _=> .no "extract") (fun _ _ _ _=>fun _=> .no "extract") (fun _ _ _ _=>fun _=> .no "extract") (fun _ _ _=>fun _=> .no "extract") (fun _=> .no "extract") (fun _=>fun _=> .no "extract") (fun _=> .no "extract") (fun _ _ _ _ _=>fun _=> .no "extract") (fun _=> .no "extract") (fun _ _=>fun _=> .no "extract") (fun vs _=>fun i=> @Option.rec AV (fun _=>R AV) (.no "extract") (fun v=> .ok v) (nthF vs i)) () (fun _ _ _ _=>()) v i
def isLenB(b:Builtin):Bool:=match b with| .len=>true|_=>false
def oneT(l:List Operand):Option Operand:=match l with| [x]=>some x|_=>none
def lenT(P:Program)(ts:Array TypeId):R Nat:=(lift "len" ts[0]?).bind fun t=>(under P t).bind fun| .string=> .ok 0| .slice _=> .ok 1|_=> .ok 2
def lenAF(v:AV):R Nat:= @AV.rec (fun _=>R Nat) (fun _=>Unit) (fun _=> .no "len") (fun _ _=> .no "len") (fun _=> .no "len") (.no "len") (fun _ _=> .no "len") (fun _ _ _ _=> .no "len") (fun _ _ _=> .no "len") (.ok 0) (fun _ _ len _ _=> .ok len) (fun _ _ len _=> .ok len) (fun _ l _ _=> .ok (lenF l)) (fun _ _ _=> .no "len") (.no "len") (fun _=> .no "len") (.no "len") (fun _ _ _ _ _=> .no "len") (.no "len") (fun _ _=> .no "len") (fun _ _=> .no "len") () (fun _ _ _ _=>()) v
def lenV(q:Nat)(v:AV):R AV:= @AV.rec (fun _=>Nat→AV→R AV) (fun _=>Unit) (fun _=>fun q v=>iteF (Nat.beq q 1) (bindF (lenAF v) fun n=> .ok (.int .i64 (.ofNat n))) (.no "len")) (fun _ _=>fun q v=>iteF (Nat.beq q 1) (bindF (lenAF v) fun n=> .ok (.int .i64 (.ofNat n))) (.no "len")) (fun s=>fun q _=>iteF (Nat.beq q 0) (.ok (.int .i64 (.ofNat (lenF s.data.toList)))) (.no "len")) (fun q v=>iteF (Nat.beq q 1) (bindF (lenAF v) fun n=> .ok (.int .i64 (.ofNat n))) (.no "len")) (fun _ _=>fun q v=>iteF (Nat.beq q 1) (bindF (lenAF v) fun n=> .ok (.int .i64 (.ofNat n))) (.no "len")) (fun _ _ _ _=>fun q v=>iteF (Nat.beq q 1) (bindF (lenAF v) fun n=> .ok (.int .i64 (.ofNat n))) (.no "len")) (fun _ _ _=>fun q v=>iteF (Nat.beq q 1) (bindF (lenAF v) fun n=> .ok (.int .i64 (.ofNat n))) (.no "len")) (fun q v=>iteF (Nat.beq q 1) (bindF (lenAF v) fun n=> .ok (.int .i64 (.ofNat n))) (.no "len")) (fun _ _ _ _ _=>fun q v=>iteF (Nat.beq q 1) (bindF (lenAF v) fun n=> .ok (.int .i64 (.ofNat n))) (.no "len")) (fun _ _ _ _=>fun q v=>iteF (Nat.beq q 1) (bindF (lenAF v) fun n=> .ok (.int .i64 (.ofNat n))) (.no "len")) (fun _ _ _ _=>fun q v=>iteF (Nat.beq q 1) (bindF (lenAF v) fun n=> .ok (.int .i64 (.ofNat n))) (.no "len")) (fun _ _ _=>fun q v=>iteF (Nat.beq q 1) (bindF (lenAF v) fun n=> .ok (.int .i64 (.ofNat n))) (.no "len")) (fun q v=>iteF (Nat.beq q 1) (bindF (lenAF v) fun n=> .ok (.int .i64 (.ofNat n))) (.no "len")) (fun _=>fun q v=>iteF (Nat.beq q 1) (bindF (lenAF v) fun n=> .ok (.int .i64 (.ofNat n))) (.no "len")) (fun q v=>iteF (Nat.beq q 1) (bindF (lenAF v) fun n=> .ok (.int .i64 (.ofNat n))) (.no "len")) (fun _ _ _ _ _=>fun q v=>iteF (Nat.beq q 1) (bindF (lenAF v) fun n=> .ok (.int .i64 (.ofNat n))) (.no "len")) (fun q v=>iteF (Nat.beq q 1) (bindF (lenAF v) fun n=> .ok (.int .i64 (.ofNat n))) (.no "len")) (fun _ _=>fun q v=>iteF (Nat.beq q 1) (bindF (lenAF v) fun n=> .ok (.int .i64 (.ofNat n))) (.no "len")) (fun _ _=>fun q v=>iteF (Nat.beq q 1) (bindF (lenAF v) fun n=> .ok (.int .i64 (.ofNat n))) (.no "len")) () (fun _ _ _ _=>()) v q v
def callPF(c:Call)(E:Env)(τ:Fr)(o:Oper):R AV:= @Callee.rec (fun _=>R AV) (fun _=>pureA E τ o) (fun _ _=>pureA E τ o) (fun b=>iteF (isLenB b) (@Option.rec Operand (fun _=>R AV) (pureA E τ o) (fun x=>bindF (evF E τ x) fun v=>bindF (lenT E.P c.argTypes) fun q=>lenV q v) (oneT c.args.toList)) (pureA E τ o)) c.callee
def sliceO(E:Env)(τ:Fr)(t:TypeId)(x:Operand)(lo hi mx:Option Operand):R AV:=(ev E τ x).bind fun a=>(evo E τ lo).bind fun lo=>(evo E τ hi).bind fun hi=>(evo E τ mx).bind fun mx=>sliceA E.P t a lo hi mx
def convO(E:Env)(τ:Fr)(src dst:TypeId)(x:Operand):R AV:=(ev E τ x).bind fun a=>(under E.P src).bind fun us=>(under E.P dst).bind fun ud=>match us,ud,a with
    | .int _, .int k, .int _ n=> .ok (.int k (k.wrap n))
    | .string, .string, .str s=> .ok (.str s)
    |_,_,_=> .no "convert"
def pureF(E:Env)(τ:Fr)(o:Oper):R AV:= @Op.rec (fun _=>Oper→Env→Fr→R AV) (fun x _ E τ=>evF E τ x) (fun x _ E τ=>evF E τ x) (fun c a b _ E τ=>bindF (evF E τ c) fun v=>boolK v (evF E τ a) (evF E τ b) (.no "pick")) (fun _=>fun o E τ=>pureA E τ o) (fun _ _=>fun o E τ=>pureA E τ o) (fun t parts _ E τ=>bindF (evsF E τ (parts.toList.map (·.2))) fun vs=>buildF E.P t (zipF (parts.toList.map (·.1)) vs)) (fun _ _ _=>fun o E τ=>pureA E τ o) (fun _ _ _ _=>fun o E τ=>pureA E τ o) (fun _ _=>fun o E τ=>pureA E τ o) (fun _ _ _=>fun o E τ=>pureA E τ o) (fun _=>fun o E τ=>pureA E τ o) (fun _=>fun o E τ=>pureA E τ o) (fun x _ E τ=>bindF (evF E τ x) fun v=>iteF (isNil v) (.no "nil") (.ok v)) (fun op t x y _ _ E τ=>bindF (evF E τ x) fun a=>bindF (evF E τ y) fun b=>binF E.P E.S op t a b) (fun op _ x _ E τ=>bindF (evF E τ x) fun a=>notF op a (lift "unOp" (a.toV.bind fun v=>(pureRun E.P (Op.unary op v)).bind ofV))) (fun src dst x _ E τ=>convO E τ src dst x) (fun _ _=>fun o E τ=>pureA E τ o) (fun _ _=>fun o E τ=>pureA E τ o) (fun _ _ _=>fun o E τ=>pureA E τ o) (fun _ _=>fun o E τ=>pureA E τ o) (fun _ _=>fun o E τ=>pureA E τ o) (fun _ _ _=>fun o E τ=>pureA E τ o) (fun t x lo hi mx _ E τ=>sliceO E τ t x lo hi mx) (fun s x f _ E τ=>bindF (evF E τ x) fun p=>bindF (faddrT E.P s f) fun d=>atF p d) (fun t x f _ E τ=>bindF (evF E τ x) fun v=>fieldF E.P t v f) (fun t x ix _ E τ=>bindF (evF E τ x) fun x=>bindF (evF E τ ix) fun i=>bindF (intF i) fun i=>idxF E.P t x i) (fun t x ix _ E τ=>bindF (evF E τ x) fun x=>bindF (evF E τ ix) fun i=>idxVF E.P t x i) (fun _ _ _ _=>fun o E τ=>pureA E τ o) (fun _ _ _ _=>fun o E τ=>pureA E τ o) (fun _ _ _=>fun o E τ=>pureA E τ o) (fun _ _ _ _=>fun o E τ=>pureA E τ o) (fun _ _=>fun o E τ=>pureA E τ o) (fun _ _=>fun o E τ=>pureA E τ o) (fun _=>fun o E τ=>pureA E τ o) (fun _ _ _ _=>fun o E τ=>pureA E τ o) (fun t i _ E τ=>bindF (evF E τ t) fun v=>extF v i) (fun c o E τ=>callPF c E τ o) (fun _=>fun o E τ=>pureA E τ o) (fun _=>fun o E τ=>pureA E τ o) (fun _=>fun o E τ=>pureA E τ o) (fun _ _=>fun o E τ=>pureA E τ o) (fun _ _ _=>fun o E τ=>pureA E τ o) (fun _ _=>fun o E τ=>pureA E τ o) o.op o E τ
def newF(E:Env)(f:FuncId)(dst:Option Nat)(id sz:Nat)(l:List AV):AV×Blk:=iteF (locB E f dst) (.sl id 0 (lenF l) sz false, .arr sz l) (.lst sz l (.own id), .tail)
def grow(E:Env)(f:FuncId)(dst:Option Nat)(sz:Nat)(l:List AV)(h:H):R (AV×H):= @Prod.rec AV Blk (fun _=>R (AV×H)) (fun v b=> .ok (v,appF h [b])) (newF E f dst (lenF h) sz l)
end
end Go.Proofs.YthnajefdiljneaaDoor.AM
namespace Go.Proofs.YthnajefdiljneaaDoor.AM
set_option linter.unusedSimpArgs false
set_option linter.unusedSectionVars false
set_option linter.unusedVariables false
def rho0:Rho:=fun _=>none
def area0:Area:=fun _ _=>False
abbrev F0:Area:=Forb area0 rho0 (view [])
theorem hr0{G:Nat→Option (List AV)}{w:World}(hg: ∀i cs,G i=some cs→CR F0 rho0 w (.pointer (some ⟨i,0,none⟩)) (.fp cs 0)):HR G area0 rho0 w (view []):=
 ⟨fun b h=>rfl,(fun b blk h=>by simp[view]at h),(fun b h=>by simp[view]at h),(fun b b' B k k' x x' h=>by cases h),(fun B off h=>False.elim h),hg⟩
theorem below_of{ρ':Rho}{h':H}{w w':World}(h:Ext (Own rho0 (view [])) rho0 w (Own ρ' (view h')) ρ' w'):RowKit.Below w.heap.size w w':=
 ⟨h.st.1,h.st.2.1,h.st.2.2,h.size,fun k hk=>h.keepo k hk (fun off=>by rintro⟨b,k,y,hb,_⟩;cases hb)⟩
theorem bok_none{E:Env}(h: ∀f,E.B f=false):BOK E:=fun f hf=>by rw[h f]at hf;cases hf
theorem cok_none{E:Env}(h: ∀f args,E.C f args=none):COK E:=fun f args hh r h' hc=>by simp[h]at hc
end Go.Proofs.YthnajefdiljneaaDoor.AM
end
section
-- SQUEEZED
/- The abstract machine: what is read of memory as data, as trees; the program's listed variables. -/
namespace Go.Proofs.YthnajefdiljneaaDoor.AM
set_option linter.unusedVariables false
set_option linter.unusedSimpArgs false
set_option linter.unusedSectionVars false
section
variable {H:Type}
variable {P:Program} {enc:TypeId×Value→H} {w:World} {base:Nat} {sp:Nat→Bool} {held:Bool} {F:Area} {ρ:Rho}
end
end Go.Proofs.YthnajefdiljneaaDoor.AM
namespace Go.Proofs.YthnajefdiljneaaDoor.AM
set_option linter.unusedVariables false
set_option linter.unusedSimpArgs false
set_option linter.unusedSectionVars false
mutual
def noRef:AV→Bool
 | .ptr .. | .eptr .. | .sl .. | .vsl .. | .map _| .fsl .. =>false
 | .fp l _=>noRefs l
 | .lst _ l tl=>noRefs l&&(match tl with| .own _=>false|_=>true)
 | .clo _ l m=>noRefs l&&noRefs m
 | .agg l=>noRefs l
 | .tup l=>noRefs l
 |_=>true
def noRefs:List AV→Bool
 | []=>true
 |x::xs=>noRef x&&noRefs xs
end
mutual
def baseV:AV→Bool
 | .bool _| .int .. | .str _| .nilp| .nils| .nilm| .nilf| .nili=>true
 | .agg l=>baseVs l
 | .tup l=>baseVs l
 |_=>false
def baseVs:List AV→Bool
 | []=>true
 |x::xs=>baseV x&&baseVs xs
end
theorem noRefs_get: ∀{l:List AV},noRefs l=true→ ∀{j:Nat} {y:AV},l[j]?=some y→noRef y=true
 | [],_,j,y,h=>by simp at h
 |x::xs,hn,j,y,h=>by
  simp only[noRefs,Bool.and_eq_true]at hn
  cases j with
  |zero=>simp at h;subst h;exact hn.1
  |succ j=>exact noRefs_get hn.2 (by simpa using h)
theorem baseVs_get: ∀{l:List AV},baseVs l=true→ ∀{j:Nat} {y:AV},l[j]?=some y→baseV y=true
 | [],_,j,y,h=>by simp at h
 |x::xs,hn,j,y,h=>by
  simp only[baseVs,Bool.and_eq_true]at hn
  cases j with
  |zero=>simp at h;subst h;exact hn.1
  |succ j=>exact baseVs_get hn.2 (by simpa using h)
theorem noRef_cell{x y:AV}{j:Nat}(h:noRef x=true)(hy:x.cells[j]?=some y):noRef y=true:=by
 cases x with
 |agg l=>exact noRefs_get (l:=l) (by simpa only [noRef]using h) hy
 |_=>
  cases j with
  |zero=>simp [AV.cells]at hy;subst hy;exact h
  |succ j=>simp [AV.cells]at hy
theorem CR.free{F:Area}{ρ:Rho}{w:World}{v:Value}{y:AV}(h:CR F ρ w v y)(ρ':Rho):noRef y=true→CR F ρ' w v y:=by
 induction h with
 |bool b=>intro _;exact .bool b
 |int k n=>intro _;exact .int k n
 |str s=>intro _;exact .str s
 |nilp=>intro _;exact .nilp
 |ptr h=>intro hn;simp[noRef]at hn
 |eptr h ho=>intro hn;simp[noRef]at hn
 |fp hb hF vs h1 h2 ho ih=>
  intro hn;simp only[noRef]at hn;exact .fp hb hF vs h1 (fun j y hy=>ih j y hy (noRefs_get hn hy)) ho
 |nils=>intro _;exact .nils
 |lst0 ht=>intro _;exact .lst0 ht
 |sl h hb hr hl hc ho=>intro hn;simp[noRef]at hn
 |vsl h hl hc ho=>intro hn;simp[noRef]at hn
 |lst hb hn' hsz hF vs h1 h2 hl hr hc ht ih=>
  intro hn;simp only[noRef,Bool.and_eq_true]at hn;refine .lst hb hn' hsz hF vs h1 (fun i x j y hx hy=>ih i x j y hx hy (noRef_cell (noRefs_get hn.1 hx) hy)) hl hr hc (fun t ht' _=>?_);subst ht';simp at hn
 |nilm=>intro _;exact .nilm
 |map h=>intro hn;simp[noRef]at hn
 |nilf=>intro _;exact .nilf
 |clo hf hc vs us h1 h2 h3 h4 ih1 ih2=>
  intro hn;simp only[noRef,Bool.and_eq_true]at hn;exact .clo hf hc vs us h1 (fun j y hy=>ih1 j y hy (noRefs_get hn.1 hy)) h3 (fun j y hy=>ih2 j y hy (noRefs_get hn.2 hy))
 |nili=>intro _;exact .nili
 |agg hn' vs h1 h2 ih=>intro hn;simp only[noRef]at hn;exact .agg hn' vs h1 (fun j y hy=>ih j y hy (noRefs_get hn hy))
 |tup hn' vs h1 h2 ih=>intro hn;simp only[noRef]at hn;exact .tup hn' vs h1 (fun j y hy=>ih j y hy (noRefs_get hn hy))
theorem CR.base{F:Area}{ρ:Rho}{w:World}{v:Value}{y:AV}(h:CR F ρ w v y)(F':Area)(ρ':Rho)(w':World):baseV y=true→CR F' ρ' w' v y:=by
 induction h with
 |bool b=>intro _;exact .bool b
 |int k n=>intro _;exact .int k n
 |str s=>intro _;exact .str s
 |nilp=>intro _;exact .nilp
 |nils=>intro _;exact .nils
 |nilm=>intro _;exact .nilm
 |nilf=>intro _;exact .nilf
 |nili=>intro _;exact .nili
 |agg hn' vs h1 h2 ih=>intro hn;simp only[baseV]at hn;exact .agg hn' vs h1 (fun j y hy=>ih j y hy (baseVs_get hn hy))
 |tup hn' vs h1 h2 ih=>intro hn;simp only[baseV]at hn;exact .tup hn' vs h1 (fun j y hy=>ih j y hy (baseVs_get hn hy))
 |_=>intro hn;simp[baseV]at hn
theorem CRs.free{F:Area}{ρ:Rho}{w:World}{vs:List Value}{l:List AV}(h:CRs F ρ w vs l)(ρ':Rho)(hn:noRefs l=true):CRs F ρ' w vs l:=
 ⟨h.1,fun j v y hv hy=>(h.2 j v y hv hy).free ρ' (noRefs_get hn hy)⟩
end Go.Proofs.YthnajefdiljneaaDoor.AM
namespace Go.Proofs.YthnajefdiljneaaDoor.AM
set_option linter.unusedVariables false
set_option linter.unusedSimpArgs false
set_option linter.unusedSectionVars false
mutual
def forget:AV→AV
 | .fp l o=> .fp (forgets l) o
 | .lst sz l tl=> .lst sz (forgets l) (match tl with| .own _=> .open_|t=>t)
 | .clo f l m=> .clo f (forgets l) (forgets m)
 | .agg l=> .agg (forgets l)
 | .tup l=> .tup (forgets l)
 |v=>v
def forgets:List AV→List AV
 | []=> []
 |x::xs=>forget x::forgets xs
end
end Go.Proofs.YthnajefdiljneaaDoor.AM
end
