/- PoolAdds: constants added one after another, by the program and by the document: the same lists, places and errors, each function by the symbolic machine's tree of it, loops by induction; which constants can be: by the print's contracts and the plain law. -/
import Derived.Test.YtdmeoefmebimnaaDoorB0
import Derived.Test.YtdmeoefmebimnaaDoorS17
import Derived.Test.YtdmeoefmebimnaaDoorQ9
import Derived.Test.YtdmeoefmebimnaaDoorQ11
import Derived.Test.YtdmeoefmebimnaaDoorQP3r
import Derived.Test.YtdmeoefmebimnaaDoorRows
import Derived.LaidSub
import Derived.WideShapes
namespace Go.Proofs.YtdmeoefmebimnaaDoor.AM
open Go Go.Proofs Go.RowKit Go.WideShapes
set_option linter.unusedVariables false
set_option linter.unusedSimpArgs false
noncomputable def E0 : Env := { P := Tryd.prog, C := fun _ _ => none, G := fun _ => none, M := 1000, L := fun _ _ => false, LC := fun _ => false, S := fun t => !Tryd.prog.stoodInHeld t }
noncomputable def X8 : SX := { E := E0, f := 8, con := fun _ => false, split := fun d => [9, 17].contains d, call := fun _ _ _ => .fail }
noncomputable def X27 : SX := { E := E0, f := 27, con := fun _ => false, split := fun d => [9, 16].contains d, call := fun _ _ _ => .fail }
noncomputable def X11 : SX := { E := E0, f := 11, con := fun _ => false, split := fun d => [10, 14, 25].contains d, call := fun _ _ _ => .fail }
noncomputable def X28 : SX := { E := E0, f := 28, con := fun _ => false, split := fun _ => false, call := fun _ _ _ => .fail }
noncomputable def b8 : Code := (Tryd.f8.body).getD .skip
noncomputable def b27 : Code := (Tryd.f27.body).getD .skip
noncomputable def b11 : Code := (Tryd.f11.body).getD .skip
noncomputable def b28 : Code := (Tryd.f28.body).getD .skip
def kNo (p : List Nat) : Known := fun q => if q = p then some (fun _ _ => .fail) else none
noncomputable def b7 : Code := (Tryd.f7.body).getD .skip
noncomputable def b9 : Code := (Tryd.f9.body).getD .skip
noncomputable def b10 : Code := (Tryd.f10.body).getD .skip
theorem p8 (l : List AV) (i : Int) (k n : Int) (s t u : ByteArray) : obsK X8 (fun _ => none) 19 (sub b8 [1,0,1,0,0]) [1,0,1,0,0] (frm [(0, .lst 5 l .open_), (3, .ptr 0 0), (5, .int .i64 i)]) [.var [.int .i64 k, .int .i64 n, .str s, .str t, .str u]] [0,3,4,5] =
  (T.br (decide (i < (↑l.length : Int)))
    (T.br (decide ((0 : Int) ≤ i) && decide (i < (↑l.length : Int)) &&
  fitsC Tryd.prog (26 : Nat) (l.getD i.toNat undef))
      (T.br (((l.getD i.toNat undef).cells.getD (0 : Nat) undef).toI == k &&
  (((l.getD i.toNat undef).cells.getD (1 : Nat) undef).toI == n &&
    (((l.getD i.toNat undef).cells.getD (2 : Nat) undef).toS == s &&
      (((l.getD i.toNat undef).cells.getD (3 : Nat) undef).toS == t &&
        (((l.getD i.toNat undef).cells.getD (4 : Nat) undef).toS == u && true)))))
        (T.leaf (X.ret, [AV.lst 5 l Tl.open_, AV.ptr 0 0, AV.int IntKind.i64 i, AV.int IntKind.i64 i],
  [Blk.var [AV.int IntKind.i64 k, AV.int IntKind.i64 n, AV.str s, AV.str t, AV.str u]]))
        (T.leaf (X.normal,
  [AV.lst 5 l Tl.open_, AV.ptr 0 0, AV.fsl 0 [], AV.int IntKind.i64 (IntKind.i64.wrap (i + 1))],
  [Blk.var [AV.int IntKind.i64 k, AV.int IntKind.i64 n, AV.str s, AV.str t, AV.str u]])))
      T.fail)
    (T.leaf (X.exit 0, [AV.lst 5 l Tl.open_, AV.ptr 0 0, AV.fsl 0 [], AV.int IntKind.i64 i],
  [Blk.var [AV.int IntKind.i64 k, AV.int IntKind.i64 n, AV.str s, AV.str t, AV.str u]]))) := by kernel_rfl
/-! ## constants -/
structure Cst where
  k : Int
  n : Int
  s : ByteArray
  t : ByteArray
  u : ByteArray
def Cst.row (c : Cst) : List AV := [.int .i64 c.k, .int .i64 c.n, .str c.s, .str c.t, .str c.u]
def encC (c : Cst) : AV := .agg c.row
def Cst.zero : Cst := ⟨0, 0, ByteArray.empty, ByteArray.empty, ByteArray.empty⟩
def eqC (a b : Cst) : Bool := a.k == b.k && (a.n == b.n && (a.s == b.s && (a.t == b.t && (a.u == b.u && true))))
theorem g0 : Ground E0 := ⟨fun t h => by simpa [E0] using h, cok_none (fun _ _ => rfl), bok_none (fun _ => rfl), by kernel_rfl⟩
theorem noCalls {X : SX} (h : ∀ f args m, X.call f args m = .fail) : CallOK X.E X.calls := fun f args m r m' hc => by
  have : X.calls f args m = (X.call f args m).run := rfl
  rw [this, h] at hc; cases hc
theorem noG0 : ∀ i cs, E0.G i = some cs → noRefs cs = true := fun i cs h => by simp [E0] at h
theorem getD_enc {L : List Cst} {j : Nat} (h : j < L.length) : (L.map encC).getD j undef = encC (L.getD j .zero) := by
  simp [List.getD_eq_getElem?_getD, List.getElem?_eq_getElem h]
theorem fits26 (c : Cst) : fitsC Tryd.prog 26 (encC c) = true := by kernel_rfl
theorem noRefs_enc : ∀ L : List Cst, noRefs (L.map encC) = true
  | [] => rfl
  | c :: L => by simp only [List.map_cons, noRefs, noRefs_enc L, Bool.and_true]; rfl
theorem wrap64 {n : Int} (h0 : 0 ≤ n) (h1 : n < 9223372036854775808) : IntKind.i64.wrap n = n := by
  have e1 : IntKind.i64.bits = 64 := rfl
  have e2 : IntKind.i64.signed = true := rfl
  simp only [IntKind.wrap, e1, e2]
  have : n % (2 ^ 64 : Int) = n := Int.emod_eq_of_lt h0 (by omega)
  rw [this]
  simp
  intro h; omega
/-- the first place of c from j on, d places looked at. -/
def from_ (L : List Cst) (c : Cst) : Nat → Nat → Option Nat
  | 0, _ => none
  | d + 1, j => if eqC (L.getD j .zero) c = true then some j else from_ L c d (j + 1)
def hp (c : Cst) : H := [.var c.row]
/-! ## hornbookref03.Find -/
def st8 (L : List Cst) (j : Nat) : List (Nat × AV) := [(0, .lst 5 (L.map encC) .open_), (3, .ptr 0 0), (5, .int .i64 j)]
def rt8 (L : List Cst) (j : Nat) : List (Nat × AV) := [(0, .lst 5 (L.map encC) .open_), (3, .ptr 0 0), (4, .int .i64 j), (5, .int .i64 j)]
noncomputable abbrev obs8 (L : List Cst) (c : Cst) (j : Nat) := obsK X8 (fun _ => none) 19 (sub b8 [1,0,1,0,0]) [1,0,1,0,0] (frm (st8 L j)) (hp c) [0,3,4,5]
theorem round8 (L : List Cst) (c : Cst) (j : Nat) (hj : j < L.length) (hl : L.length < 1000000000000000) (hne : eqC (L.getD j .zero) c = false) :
    (obs8 L c j).run = .ok (.normal, [.lst 5 (L.map encC) .open_, .ptr 0 0, .fsl 0 [], .int .i64 ((j + 1 : Nat) : Int)], hp c) := by
  have ht := p8 (L.map encC) j c.k c.n c.s c.t c.u
  have hlen : (L.map encC).length = L.length := by simp
  have hc : ((j : Int)).toNat = j := by simp
  rw [hc, getD_enc hj, fits26] at ht
  have h1 : decide ((j : Int) < ((L.map encC).length : Nat)) = true := by rw [hlen]; simp; omega
  have h2 : decide (0 ≤ (j : Int)) = true := by simp
  have hw : IntKind.i64.wrap ((j : Int) + 1) = ((j + 1 : Nat) : Int) := by rw [wrap64 (by omega) (by omega)]; simp
  refine (congrArg T.run ht).trans ?_
  rw [h1, h2, hw]
  obtain ⟨x, hx⟩ : ∃ x, x = L.getD j .zero := ⟨_, rfl⟩
  rw [← hx] at hne ⊢
  have he : (((encC x).cells.getD 0 undef).toI == c.k && (((encC x).cells.getD 1 undef).toI == c.n && (((encC x).cells.getD 2 undef).toS == c.s && (((encC x).cells.getD 3 undef).toS == c.t && (((encC x).cells.getD 4 undef).toS == c.u && true))))) = false := hne
  rw [he]
  rfl
theorem hit8 (L : List Cst) (c : Cst) (j : Nat) (hj : j < L.length) (heq : eqC (L.getD j .zero) c = true) :
    (obs8 L c j).run = .ok (.ret, (rt8 L j).map (·.2), hp c) := by
  have ht := p8 (L.map encC) j c.k c.n c.s c.t c.u
  have hlen : (L.map encC).length = L.length := by simp
  have hc : ((j : Int)).toNat = j := by simp
  rw [hc, getD_enc hj, fits26] at ht
  have h1 : decide ((j : Int) < ((L.map encC).length : Nat)) = true := by rw [hlen]; simp; omega
  have h2 : decide (0 ≤ (j : Int)) = true := by simp
  refine (congrArg T.run ht).trans ?_
  rw [h1, h2]
  obtain ⟨x, hx⟩ : ∃ x, x = L.getD j .zero := ⟨_, rfl⟩
  rw [← hx] at heq ⊢
  have he : (((encC x).cells.getD 0 undef).toI == c.k && (((encC x).cells.getD 1 undef).toI == c.n && (((encC x).cells.getD 2 undef).toS == c.s && (((encC x).cells.getD 3 undef).toS == c.t && (((encC x).cells.getD 4 undef).toS == c.u && true))))) = true := heq
  rw [he]
  rfl
theorem out8 (L : List Cst) (c : Cst) : (obs8 L c L.length).run = .ok (.exit 0, [.lst 5 (L.map encC) .open_, .ptr 0 0, .fsl 0 [], .int .i64 (L.length : Nat)], hp c) := by
  have ht := p8 (L.map encC) L.length c.k c.n c.s c.t c.u
  have h1 : decide ((L.length : Int) < ((L.map encC).length : Nat)) = false := by simp
  rw [h1] at ht
  exact congrArg T.run ht
theorem loop8 (L : List Cst) (c : Cst) (hl : L.length < 1000000000000000) : ∀ (d j : Nat), j + d = L.length → match from_ L c d j with
    | some i => TRounds E0 19 [] (sub b8 [1,0,1,0,0]) (frm (st8 L j)) (hp c) .ret (frm (rt8 L i)) (hp c)
    | none => TRounds E0 19 [] (sub b8 [1,0,1,0,0]) (frm (st8 L j)) (hp c) (.exit 0) (frm (st8 L L.length)) (hp c)
  | 0, j, h => by
    obtain rfl : j = L.length := by omega
    exact .done (.wk .refl (Tri.of_obs (X := X8) g0 (noCalls fun _ _ _ => rfl) KOK.none rfl (out8 L c)) (Wk.fewer fun q hq => by
      simp only [st8, List.mem_cons, List.not_mem_nil, or_false] at hq
      rcases hq with rfl | rfl | rfl <;> rfl)) nofun
  | d + 1, j, h => by
    simp only [from_]
    by_cases he : eqC (L.getD j .zero) c = true
    · rw [if_pos he]
      exact .done (Tri.of_obs (X := X8) g0 (noCalls fun _ _ _ => rfl) KOK.none rfl (hit8 L c j (by omega) he)) nofun
    · rw [if_neg he]
      have ih := loop8 L c hl d (j + 1) (by omega)
      have hr : Tri E0 19 [] (sub b8 [1,0,1,0,0]) (frm (st8 L j)) (hp c) .normal (frm (st8 L (j + 1))) (hp c) := .wk .refl (Tri.of_obs (X := X8) g0 (noCalls fun _ _ _ => rfl) KOK.none rfl (round8 L c j (by omega) hl (by simpa using he))) (Wk.fewer fun q hq => by
        simp only [st8, List.mem_cons, List.not_mem_nil, or_false] at hq
        rcases hq with rfl | rfl | rfl <;> rfl)
      cases hf : from_ L c d (j + 1) with
      | some i => rw [hf] at ih; exact .more hr ih
      | none => rw [hf] at ih; exact .more hr ih
theorem p8r (L : List Cst) (c : Cst) (i : Nat) : runF X8 (kAt [1,0,1] (st8 L 0) (hp c) .ret (rt8 L i) (hp c)) Tryd.f8 b8 [.lst 5 (L.map encC) .open_, encC c] [] =
  (T.br (askS [AV.lst (5 : Nat) (List.map encC L) Tl.open_, AV.ptr (0 : Nat) (0 : Nat), AV.int IntKind.i64 (0 : Int)]
  [AV.lst (5 : Nat) (List.map encC L) Tl.open_, AV.ptr (0 : Nat) (0 : Nat), AV.int IntKind.i64 (↑(0 : Nat) : Int)]
  [Blk.var [AV.int IntKind.i64 c.1, AV.int IntKind.i64 c.2, AV.str c.3, AV.str c.4, AV.str c.5]]
  [Blk.var [AV.int IntKind.i64 c.1, AV.int IntKind.i64 c.2, AV.str c.3, AV.str c.4, AV.str c.5]])
    (T.leaf (AV.int IntKind.i64 (↑i : Int),
  [Blk.var [AV.int IntKind.i64 c.1, AV.int IntKind.i64 c.2, AV.str c.3, AV.str c.4, AV.str c.5]]))
    T.fail) := by kernel_rfl
theorem p8n (L : List Cst) (c : Cst) : runF X8 (kAt [1,0,1] (st8 L 0) (hp c) .normal (st8 L L.length) (hp c)) Tryd.f8 b8 [.lst 5 (L.map encC) .open_, encC c] [] =
  (T.br (askS [AV.lst (5 : Nat) (List.map encC L) Tl.open_, AV.ptr (0 : Nat) (0 : Nat), AV.int IntKind.i64 (0 : Int)]
  [AV.lst (5 : Nat) (List.map encC L) Tl.open_, AV.ptr (0 : Nat) (0 : Nat), AV.int IntKind.i64 (↑(0 : Nat) : Int)]
  [Blk.var [AV.int IntKind.i64 c.1, AV.int IntKind.i64 c.2, AV.str c.3, AV.str c.4, AV.str c.5]]
  [Blk.var [AV.int IntKind.i64 c.1, AV.int IntKind.i64 c.2, AV.str c.3, AV.str c.4, AV.str c.5]])
    (T.leaf (AV.int IntKind.i64 (-1),
  [Blk.var [AV.int IntKind.i64 c.1, AV.int IntKind.i64 c.2, AV.str c.3, AV.str c.4, AV.str c.5]]))
    T.fail) := by kernel_rfl
theorem askS_run {α : Type} {vs ws : List AV} {h h0 : H} {r : α} {t : T α} (hv : vs = ws) (hh : h = h0) : (T.br (askS vs ws h h0) (.leaf r) t).run = .ok r := by
  subst hv; subst hh; rw [askS_self]; rfl
/-- a place, or -1. -/
def resF : Option Nat → Int
  | some i => i
  | none => -1
theorem con8 (L : List Cst) (c : Cst) (hl : L.length < 1000000000000000) (h : H) : Con E0 8 [.lst 5 (L.map encC) .open_, encC c] h (.int .i64 (resF (from_ L c L.length 0))) h := by
  have hn : noRefs [AV.lst 5 (L.map encC) .open_, encC c] = true := by
    simp only [noRefs, noRef, noRefs_enc, Bool.and_true, Bool.true_and]; rfl
  have hT := loop8 L c hl L.length 0 (by omega)
  cases hf : from_ L c L.length 0 with
  | some i =>
    rw [hf] at hT
    have hk : KOK E0 19 [] b8 (kAt [1,0,1] (st8 L 0) (hp c) .ret (rt8 L i) (hp c)) := kAt_ok (Tri.block (id := 0) (Tri.loop hT))
    have ht := p8r L c i
    have hr := (congrArg T.run ht).trans (askS_run rfl rfl)
    exact Con.base noG0 (Con.of_run (X := X8) (f := 8) g0 (noCalls fun _ _ _ => rfl) (fn := Tryd.f8) Tryd.func8 (c := b8) rfl rfl (args := [.lst 5 (L.map encC) .open_, encC c]) (h := []) hk hr) hn rfl h
  | none =>
    rw [hf] at hT
    have hk : KOK E0 19 [] b8 (kAt [1,0,1] (st8 L 0) (hp c) .normal (st8 L L.length) (hp c)) := kAt_ok (Tri.block (id := 0) (Tri.loop hT))
    have ht := p8n L c
    have hr := (congrArg T.run ht).trans (askS_run rfl rfl)
    exact Con.base noG0 (Con.of_run (X := X8) (f := 8) g0 (noCalls fun _ _ _ => rfl) (fn := Tryd.f8) Tryd.func8 (c := b8) rfl rfl (args := [.lst 5 (L.map encC) .open_, encC c]) (h := []) hk hr) hn rfl h
theorem p27 (l : List AV) (i : Int) (k n : Int) (s t u : ByteArray) : obsK X27 (fun _ => none) 19 (sub b27 [1,0,1,0,0]) [1,0,1,0,0] (frm [(0, .lst 5 l .open_), (3, .ptr 0 0), (7, .int .i64 l.length), (8, .int .i64 i)]) [.var [.int .i64 k, .int .i64 n, .str s, .str t, .str u]] [0,3,4,7,8] =
  (T.br (decide (i < (↑l.length : Int)))
    (T.br (decide ((0 : Int) ≤ i) && decide (i < (↑l.length : Int)) &&
  fitsC Tryd.prog (26 : Nat) (l.getD i.toNat undef))
      (T.br (k == ((l.getD i.toNat undef).cells.getD (0 : Nat) undef).toI &&
  (n == ((l.getD i.toNat undef).cells.getD (1 : Nat) undef).toI &&
    (s == ((l.getD i.toNat undef).cells.getD (2 : Nat) undef).toS &&
      (t == ((l.getD i.toNat undef).cells.getD (3 : Nat) undef).toS &&
        (u == ((l.getD i.toNat undef).cells.getD (4 : Nat) undef).toS && true)))))
        (T.leaf (X.ret,
  [AV.lst 5 l Tl.open_, AV.ptr 0 0, AV.int IntKind.i64 i, AV.int IntKind.i64 (↑l.length : Int), AV.int IntKind.i64 i],
  [Blk.var [AV.int IntKind.i64 k, AV.int IntKind.i64 n, AV.str s, AV.str t, AV.str u]]))
        (T.leaf (X.normal,
  [AV.lst 5 l Tl.open_, AV.ptr 0 0, AV.fsl 0 [], AV.int IntKind.i64 (↑l.length : Int),
    AV.int IntKind.i64 (IntKind.i64.wrap (i + 1))],
  [Blk.var [AV.int IntKind.i64 k, AV.int IntKind.i64 n, AV.str s, AV.str t, AV.str u]])))
      T.fail)
    (T.leaf (X.exit 0,
  [AV.lst 5 l Tl.open_, AV.ptr 0 0, AV.fsl 0 [], AV.int IntKind.i64 (↑l.length : Int), AV.int IntKind.i64 i],
  [Blk.var [AV.int IntKind.i64 k, AV.int IntKind.i64 n, AV.str s, AV.str t, AV.str u]]))) := by kernel_rfl
theorem ba_beq (a b : ByteArray) : (a == b) = (b == a) := by
  obtain ⟨a⟩ := a; obtain ⟨b⟩ := b
  show (a == b) = (b == a)
  exact Bool.beq_comm
theorem eqC_comm (a b : Cst) : eqC a b = eqC b a := by
  unfold eqC
  rw [Bool.beq_comm (a := a.k), Bool.beq_comm (a := a.n), ba_beq a.s, ba_beq a.t, ba_beq a.u]
/-! ## slices.Index -/
def st27 (L : List Cst) (j : Nat) : List (Nat × AV) := [(0, .lst 5 (L.map encC) .open_), (3, .ptr 0 0), (7, .int .i64 (L.map encC).length), (8, .int .i64 j)]
def rt27 (L : List Cst) (j : Nat) : List (Nat × AV) := [(0, .lst 5 (L.map encC) .open_), (3, .ptr 0 0), (4, .int .i64 j), (7, .int .i64 (L.map encC).length), (8, .int .i64 j)]
noncomputable abbrev obs27 (L : List Cst) (c : Cst) (j : Nat) := obsK X27 (fun _ => none) 19 (sub b27 [1,0,1,0,0]) [1,0,1,0,0] (frm (st27 L j)) (hp c) [0,3,4,7,8]
theorem round27 (L : List Cst) (c : Cst) (j : Nat) (hj : j < L.length) (hl : L.length < 1000000000000000) (hne : eqC (L.getD j .zero) c = false) :
    (obs27 L c j).run = .ok (.normal, [.lst 5 (L.map encC) .open_, .ptr 0 0, .fsl 0 [], .int .i64 (L.map encC).length, .int .i64 ((j + 1 : Nat) : Int)], hp c) := by
  have ht := p27 (L.map encC) j c.k c.n c.s c.t c.u
  have hlen : (L.map encC).length = L.length := by simp
  have hc : ((j : Int)).toNat = j := by simp
  rw [hc, getD_enc hj, fits26] at ht
  have h1 : decide ((j : Int) < ((L.map encC).length : Nat)) = true := by rw [hlen]; simp; omega
  have h2 : decide (0 ≤ (j : Int)) = true := by simp
  have hw : IntKind.i64.wrap ((j : Int) + 1) = ((j + 1 : Nat) : Int) := by rw [wrap64 (by omega) (by omega)]; simp
  refine (congrArg T.run ht).trans ?_
  rw [h1, h2, hw]
  obtain ⟨x, hx⟩ : ∃ x, x = L.getD j .zero := ⟨_, rfl⟩
  rw [← hx] at hne ⊢
  have he : (c.k == ((encC x).cells.getD 0 undef).toI && (c.n == ((encC x).cells.getD 1 undef).toI && (c.s == ((encC x).cells.getD 2 undef).toS && (c.t == ((encC x).cells.getD 3 undef).toS && (c.u == ((encC x).cells.getD 4 undef).toS && true))))) = false := (eqC_comm c x).trans hne
  rw [he]
  rfl
theorem hit27 (L : List Cst) (c : Cst) (j : Nat) (hj : j < L.length) (heq : eqC (L.getD j .zero) c = true) :
    (obs27 L c j).run = .ok (.ret, (rt27 L j).map (·.2), hp c) := by
  have ht := p27 (L.map encC) j c.k c.n c.s c.t c.u
  have hlen : (L.map encC).length = L.length := by simp
  have hc : ((j : Int)).toNat = j := by simp
  rw [hc, getD_enc hj, fits26] at ht
  have h1 : decide ((j : Int) < ((L.map encC).length : Nat)) = true := by rw [hlen]; simp; omega
  have h2 : decide (0 ≤ (j : Int)) = true := by simp
  refine (congrArg T.run ht).trans ?_
  rw [h1, h2]
  obtain ⟨x, hx⟩ : ∃ x, x = L.getD j .zero := ⟨_, rfl⟩
  rw [← hx] at heq ⊢
  have he : (c.k == ((encC x).cells.getD 0 undef).toI && (c.n == ((encC x).cells.getD 1 undef).toI && (c.s == ((encC x).cells.getD 2 undef).toS && (c.t == ((encC x).cells.getD 3 undef).toS && (c.u == ((encC x).cells.getD 4 undef).toS && true))))) = true := (eqC_comm c x).trans heq
  rw [he]
  rfl
theorem out27 (L : List Cst) (c : Cst) : (obs27 L c L.length).run = .ok (.exit 0, [.lst 5 (L.map encC) .open_, .ptr 0 0, .fsl 0 [], .int .i64 (L.map encC).length, .int .i64 (L.length : Nat)], hp c) := by
  have ht := p27 (L.map encC) L.length c.k c.n c.s c.t c.u
  have h1 : decide ((L.length : Int) < ((L.map encC).length : Nat)) = false := by simp
  rw [h1] at ht
  exact congrArg T.run ht
theorem loop27 (L : List Cst) (c : Cst) (hl : L.length < 1000000000000000) : ∀ (d j : Nat), j + d = L.length → match from_ L c d j with
    | some i => TRounds E0 19 [] (sub b27 [1,0,1,0,0]) (frm (st27 L j)) (hp c) .ret (frm (rt27 L i)) (hp c)
    | none => TRounds E0 19 [] (sub b27 [1,0,1,0,0]) (frm (st27 L j)) (hp c) (.exit 0) (frm (st27 L L.length)) (hp c)
  | 0, j, h => by
    obtain rfl : j = L.length := by omega
    exact .done (.wk .refl (Tri.of_obs (X := X27) g0 (noCalls fun _ _ _ => rfl) KOK.none rfl (out27 L c)) (Wk.fewer fun q hq => by
      simp only [st27, List.mem_cons, List.not_mem_nil, or_false] at hq
      rcases hq with rfl | rfl | rfl | rfl <;> rfl)) nofun
  | d + 1, j, h => by
    simp only [from_]
    by_cases he : eqC (L.getD j .zero) c = true
    · rw [if_pos he]
      exact .done (Tri.of_obs (X := X27) g0 (noCalls fun _ _ _ => rfl) KOK.none rfl (hit27 L c j (by omega) he)) nofun
    · rw [if_neg he]
      have ih := loop27 L c hl d (j + 1) (by omega)
      have hr : Tri E0 19 [] (sub b27 [1,0,1,0,0]) (frm (st27 L j)) (hp c) .normal (frm (st27 L (j + 1))) (hp c) := .wk .refl (Tri.of_obs (X := X27) g0 (noCalls fun _ _ _ => rfl) KOK.none rfl (round27 L c j (by omega) hl (by simpa using he))) (Wk.fewer fun q hq => by
        simp only [st27, List.mem_cons, List.not_mem_nil, or_false] at hq
        rcases hq with rfl | rfl | rfl | rfl <;> rfl)
      cases hf : from_ L c d (j + 1) with
      | some i => rw [hf] at ih; exact .more hr ih
      | none => rw [hf] at ih; exact .more hr ih
theorem p27r (L : List Cst) (c : Cst) (i : Nat) : runF X27 (kAt [1,0,1] (st27 L 0) (hp c) .ret (rt27 L i) (hp c)) Tryd.f27 b27 [.lst 5 (L.map encC) .open_, encC c] [] =
  (T.br (askS
  [AV.lst (5 : Nat) (List.map encC L) Tl.open_, AV.ptr (0 : Nat) (0 : Nat),
    AV.int IntKind.i64 (↑(List.map encC L).length : Int), AV.int IntKind.i64 (0 : Int)]
  [AV.lst (5 : Nat) (List.map encC L) Tl.open_, AV.ptr (0 : Nat) (0 : Nat),
    AV.int IntKind.i64 (↑(List.map encC L).length : Int), AV.int IntKind.i64 (↑(0 : Nat) : Int)]
  [Blk.var [AV.int IntKind.i64 c.1, AV.int IntKind.i64 c.2, AV.str c.3, AV.str c.4, AV.str c.5]]
  [Blk.var [AV.int IntKind.i64 c.1, AV.int IntKind.i64 c.2, AV.str c.3, AV.str c.4, AV.str c.5]])
    (T.leaf (AV.int IntKind.i64 (↑i : Int),
  [Blk.var [AV.int IntKind.i64 c.1, AV.int IntKind.i64 c.2, AV.str c.3, AV.str c.4, AV.str c.5]]))
    T.fail) := by kernel_rfl
theorem p27n (L : List Cst) (c : Cst) : runF X27 (kAt [1,0,1] (st27 L 0) (hp c) .normal (st27 L L.length) (hp c)) Tryd.f27 b27 [.lst 5 (L.map encC) .open_, encC c] [] =
  (T.br (askS
  [AV.lst (5 : Nat) (List.map encC L) Tl.open_, AV.ptr (0 : Nat) (0 : Nat),
    AV.int IntKind.i64 (↑(List.map encC L).length : Int), AV.int IntKind.i64 (0 : Int)]
  [AV.lst (5 : Nat) (List.map encC L) Tl.open_, AV.ptr (0 : Nat) (0 : Nat),
    AV.int IntKind.i64 (↑(List.map encC L).length : Int), AV.int IntKind.i64 (↑(0 : Nat) : Int)]
  [Blk.var [AV.int IntKind.i64 c.1, AV.int IntKind.i64 c.2, AV.str c.3, AV.str c.4, AV.str c.5]]
  [Blk.var [AV.int IntKind.i64 c.1, AV.int IntKind.i64 c.2, AV.str c.3, AV.str c.4, AV.str c.5]])
    (T.leaf (AV.int IntKind.i64 (-1),
  [Blk.var [AV.int IntKind.i64 c.1, AV.int IntKind.i64 c.2, AV.str c.3, AV.str c.4, AV.str c.5]]))
    T.fail) := by kernel_rfl
theorem con27 (L : List Cst) (c : Cst) (hl : L.length < 1000000000000000) (h : H) : Con E0 27 [.lst 5 (L.map encC) .open_, encC c] h (.int .i64 (resF (from_ L c L.length 0))) h := by
  have hn : noRefs [AV.lst 5 (L.map encC) .open_, encC c] = true := by
    simp only [noRefs, noRef, noRefs_enc, Bool.and_true, Bool.true_and]; rfl
  have hT := loop27 L c hl L.length 0 (by omega)
  cases hf : from_ L c L.length 0 with
  | some i =>
    rw [hf] at hT
    have hk : KOK E0 19 [] b27 (kAt [1,0,1] (st27 L 0) (hp c) .ret (rt27 L i) (hp c)) := kAt_ok (Tri.block (id := 0) (Tri.loop hT))
    have ht := p27r L c i
    have hr := (congrArg T.run ht).trans (askS_run rfl rfl)
    exact Con.base noG0 (Con.of_run (X := X27) (f := 27) g0 (noCalls fun _ _ _ => rfl) (fn := Tryd.f27) Tryd.func27 (c := b27) rfl rfl (args := [.lst 5 (L.map encC) .open_, encC c]) (h := []) hk hr) hn rfl h
  | none =>
    rw [hf] at hT
    have hk : KOK E0 19 [] b27 (kAt [1,0,1] (st27 L 0) (hp c) .normal (st27 L L.length) (hp c)) := kAt_ok (Tri.block (id := 0) (Tri.loop hT))
    have ht := p27n L c
    have hr := (congrArg T.run ht).trans (askS_run rfl rfl)
    exact Con.base noG0 (Con.of_run (X := X27) (f := 27) g0 (noCalls fun _ _ _ => rfl) (fn := Tryd.f27) Tryd.func27 (c := b27) rfl rfl (args := [.lst 5 (L.map encC) .open_, encC c]) (h := []) hk hr) hn rfl h
theorem p11 (l m : List AV) (i : Int) : obsK X11 (fun _ => none) 26 (sub b11 [1,1,0,1,0,0]) [1,1,0,1,0,0] (frm [(0, .lst 5 l .open_), (1, .lst 5 m .open_), (5, .int .i64 i)]) [] [0,1,4,5] =
  (T.br (decide (i < (↑l.length : Int)))
    (T.br (decide ((0 : Int) ≤ i) && decide (i < (↑l.length : Int)) &&
  fitsC Tryd.prog (26 : Nat) (l.getD i.toNat undef))
      (T.br (decide ((0 : Int) ≤ i) && decide (i < (↑m.length : Int)) &&
  fitsC Tryd.prog (26 : Nat) (m.getD i.toNat undef))
        (T.br (!(((l.getD i.toNat undef).cells.getD (0 : Nat) undef).toI ==
      ((m.getD i.toNat undef).cells.getD (0 : Nat) undef).toI &&
    (((l.getD i.toNat undef).cells.getD (1 : Nat) undef).toI ==
        ((m.getD i.toNat undef).cells.getD (1 : Nat) undef).toI &&
      (((l.getD i.toNat undef).cells.getD (2 : Nat) undef).toS ==
          ((m.getD i.toNat undef).cells.getD (2 : Nat) undef).toS &&
        (((l.getD i.toNat undef).cells.getD (3 : Nat) undef).toS ==
            ((m.getD i.toNat undef).cells.getD (3 : Nat) undef).toS &&
          (((l.getD i.toNat undef).cells.getD (4 : Nat) undef).toS ==
              ((m.getD i.toNat undef).cells.getD (4 : Nat) undef).toS &&
            true))))))
          (T.leaf (X.ret, [AV.lst 5 l Tl.open_, AV.lst 5 m Tl.open_, AV.bool false, AV.int IntKind.i64 i], []))
          (T.leaf (X.normal,
  [AV.lst 5 l Tl.open_, AV.lst 5 m Tl.open_, AV.fsl 0 [], AV.int IntKind.i64 (IntKind.i64.wrap (i + 1))], [])))
        T.fail)
      T.fail)
    (T.leaf (X.exit 0, [AV.lst 5 l Tl.open_, AV.lst 5 m Tl.open_, AV.fsl 0 [], AV.int IntKind.i64 i], []))) := by kernel_rfl
/-! ## hornbookref03.Same -/
def same_ (L M : List Cst) : Nat → Nat → Bool
  | 0, _ => true
  | d + 1, j => if eqC (L.getD j .zero) (M.getD j .zero) = true then same_ L M d (j + 1) else false
def st11 (L M : List Cst) (j : Nat) : List (Nat × AV) := [(0, .lst 5 (L.map encC) .open_), (1, .lst 5 (M.map encC) .open_), (5, .int .i64 j)]
def rt11 (L M : List Cst) : List (Nat × AV) := [(4, .bool false)]
noncomputable abbrev obs11 (L M : List Cst) (j : Nat) := obsK X11 (fun _ => none) 26 (sub b11 [1,1,0,1,0,0]) [1,1,0,1,0,0] (frm (st11 L M j)) [] [0,1,4,5]
theorem cmp11 (x y : Cst) : (!(((encC x).cells.getD 0 undef).toI == ((encC y).cells.getD 0 undef).toI && (((encC x).cells.getD 1 undef).toI == ((encC y).cells.getD 1 undef).toI && (((encC x).cells.getD 2 undef).toS == ((encC y).cells.getD 2 undef).toS && (((encC x).cells.getD 3 undef).toS == ((encC y).cells.getD 3 undef).toS && (((encC x).cells.getD 4 undef).toS == ((encC y).cells.getD 4 undef).toS && true)))))) = !eqC x y := rfl
theorem round11 (L M : List Cst) (j : Nat) (hj : j < L.length) (hm : M.length = L.length) (hl : L.length < 1000000000000000) (he : eqC (L.getD j .zero) (M.getD j .zero) = true) :
    (obs11 L M j).run = .ok (.normal, [.lst 5 (L.map encC) .open_, .lst 5 (M.map encC) .open_, .fsl 0 [], .int .i64 ((j + 1 : Nat) : Int)], []) := by
  have ht := p11 (L.map encC) (M.map encC) j
  have hc : ((j : Int)).toNat = j := by simp
  rw [hc, getD_enc hj, getD_enc (show j < M.length by omega), fits26, fits26, cmp11, he] at ht
  have h1 : decide ((j : Int) < ((L.map encC).length : Nat)) = true := by simp; omega
  have h3 : decide ((j : Int) < ((M.map encC).length : Nat)) = true := by simp; omega
  have h2 : decide (0 ≤ (j : Int)) = true := by simp
  have hw : IntKind.i64.wrap ((j : Int) + 1) = ((j + 1 : Nat) : Int) := by rw [wrap64 (by omega) (by omega)]; simp
  rw [h1, h2, h3, hw] at ht
  exact congrArg T.run ht
theorem hit11 (L M : List Cst) (j : Nat) (hj : j < L.length) (hm : M.length = L.length) (he : eqC (L.getD j .zero) (M.getD j .zero) = false) :
    (obs11 L M j).run = .ok (.ret, [.lst 5 (L.map encC) .open_, .lst 5 (M.map encC) .open_, .bool false, .int .i64 j], []) := by
  have ht := p11 (L.map encC) (M.map encC) j
  have hc : ((j : Int)).toNat = j := by simp
  rw [hc, getD_enc hj, getD_enc (show j < M.length by omega), fits26, fits26, cmp11, he] at ht
  have h1 : decide ((j : Int) < ((L.map encC).length : Nat)) = true := by simp; omega
  have h3 : decide ((j : Int) < ((M.map encC).length : Nat)) = true := by simp; omega
  have h2 : decide (0 ≤ (j : Int)) = true := by simp
  rw [h1, h2, h3] at ht
  exact congrArg T.run ht
theorem out11 (L M : List Cst) : (obs11 L M L.length).run = .ok (.exit 0, [.lst 5 (L.map encC) .open_, .lst 5 (M.map encC) .open_, .fsl 0 [], .int .i64 L.length], []) := by
  have ht := p11 (L.map encC) (M.map encC) L.length
  have h1 : decide ((L.length : Int) < ((L.map encC).length : Nat)) = false := by simp
  rw [h1] at ht
  exact congrArg T.run ht
theorem loop11 (L M : List Cst) (hm : M.length = L.length) (hl : L.length < 1000000000000000) : ∀ (d j : Nat), j + d = L.length → match same_ L M d j with
    | false => TRounds E0 26 [] (sub b11 [1,1,0,1,0,0]) (frm (st11 L M j)) [] .ret (frm (rt11 L M)) []
    | true => TRounds E0 26 [] (sub b11 [1,1,0,1,0,0]) (frm (st11 L M j)) [] (.exit 0) (frm (st11 L M L.length)) []
  | 0, j, h => by
    obtain rfl : j = L.length := by omega
    exact .done (.wk .refl (Tri.of_obs (X := X11) g0 (noCalls fun _ _ _ => rfl) KOK.none rfl (out11 L M)) (Wk.fewer fun q hq => by
      simp only [st11, List.mem_cons, List.not_mem_nil, or_false] at hq
      rcases hq with rfl | rfl | rfl <;> rfl)) nofun
  | d + 1, j, h => by
    simp only [same_]
    by_cases he : eqC (L.getD j .zero) (M.getD j .zero) = true
    · rw [if_pos he]
      have ih := loop11 L M hm hl d (j + 1) (by omega)
      have hr : Tri E0 26 [] (sub b11 [1,1,0,1,0,0]) (frm (st11 L M j)) [] .normal (frm (st11 L M (j + 1))) [] := .wk .refl (Tri.of_obs (X := X11) g0 (noCalls fun _ _ _ => rfl) KOK.none rfl (round11 L M j (by omega) hm hl he)) (Wk.fewer fun q hq => by
        simp only [st11, List.mem_cons, List.not_mem_nil, or_false] at hq
        rcases hq with rfl | rfl | rfl <;> rfl)
      cases hf : same_ L M d (j + 1) with
      | true => rw [hf] at ih; exact .more hr ih
      | false => rw [hf] at ih; exact .more hr ih
    · rw [if_neg he]
      exact .done (.wk .refl (Tri.of_obs (X := X11) g0 (noCalls fun _ _ _ => rfl) KOK.none rfl (hit11 L M j (by omega) hm (by simpa using he))) (Wk.fewer fun q hq => by
        simp only [rt11, List.mem_cons, List.not_mem_nil, or_false] at hq
        rcases hq with rfl; rfl)) nofun
theorem p11r (L M : List Cst) : runF X11 (kAt [1,1,0,1] (st11 L M 0) [] .ret (rt11 L M) []) Tryd.f11 b11 [.lst 5 (L.map encC) .open_, .lst 5 (M.map encC) .open_] [] =
  (T.br (!decide ((↑(List.map encC L).length : Int) = (↑(List.map encC M).length : Int)))
    (T.leaf (AV.bool false, []))
    (T.br (askS
  [AV.lst (5 : Nat) (List.map encC L) Tl.open_, AV.lst (5 : Nat) (List.map encC M) Tl.open_,
    AV.int IntKind.i64 (0 : Int)]
  [AV.lst (5 : Nat) (List.map encC L) Tl.open_, AV.lst (5 : Nat) (List.map encC M) Tl.open_,
    AV.int IntKind.i64 (↑(0 : Nat) : Int)]
  [] [])
      (T.leaf (AV.bool false, []))
      T.fail)) := by kernel_rfl
theorem p11n (L M : List Cst) : runF X11 (kAt [1,1,0,1] (st11 L M 0) [] .normal (st11 L M L.length) []) Tryd.f11 b11 [.lst 5 (L.map encC) .open_, .lst 5 (M.map encC) .open_] [] =
  (T.br (!decide ((↑(List.map encC L).length : Int) = (↑(List.map encC M).length : Int)))
    (T.leaf (AV.bool false, []))
    (T.br (askS
  [AV.lst (5 : Nat) (List.map encC L) Tl.open_, AV.lst (5 : Nat) (List.map encC M) Tl.open_,
    AV.int IntKind.i64 (0 : Int)]
  [AV.lst (5 : Nat) (List.map encC L) Tl.open_, AV.lst (5 : Nat) (List.map encC M) Tl.open_,
    AV.int IntKind.i64 (↑(0 : Nat) : Int)]
  [] [])
      (T.leaf (AV.bool true, []))
      T.fail)) := by kernel_rfl
theorem p11x (L M : List Cst) : runF X11 (kNo [1,1,0,1]) Tryd.f11 b11 [.lst 5 (L.map encC) .open_, .lst 5 (M.map encC) .open_] [] =
  (T.br (!decide ((↑(List.map encC L).length : Int) = (↑(List.map encC M).length : Int)))
    (T.leaf (AV.bool false, []))
    T.fail) := by kernel_rfl
theorem kNo_ok {E : Env} {N : Nat} {hb : H} {b : Code} {p : List Nat} : KOK E N hb b (kNo p) := by
  intro q k hk τ h y τ' h1 hr
  simp only [kNo] at hk
  split at hk
  · cases hk; cases hr
  · cases hk
def sameC (L M : List Cst) : Bool := if L.length = M.length then same_ L M L.length 0 else false
theorem con11 (L M : List Cst) (hl : L.length < 1000000000000000) (h : H) : Con E0 11 [.lst 5 (L.map encC) .open_, .lst 5 (M.map encC) .open_] h (.bool (sameC L M)) h := by
  have hn : noRefs [AV.lst 5 (L.map encC) .open_, AV.lst 5 (M.map encC) .open_] = true := by
    simp only [noRefs, noRef, noRefs_enc, Bool.and_true, Bool.true_and]
  unfold sameC
  by_cases hm : L.length = M.length
  · rw [if_pos hm]
    have hd : (!decide (((L.map encC).length : Int) = ((M.map encC).length : Int))) = false := by simp; omega
    have hT := loop11 L M hm.symm hl L.length 0 (by omega)
    cases hf : same_ L M L.length 0 with
    | false =>
      rw [hf] at hT
      have hk : KOK E0 26 [] b11 (kAt [1,1,0,1] (st11 L M 0) [] .ret (rt11 L M) []) := kAt_ok (Tri.block (id := 0) (Tri.loop hT))
      have ht := p11r L M
      rw [hd] at ht
      have hr := (congrArg T.run ht).trans (askS_run rfl rfl)
      exact Con.base noG0 (Con.of_run (X := X11) (f := 11) g0 (noCalls fun _ _ _ => rfl) (fn := Tryd.f11) Tryd.func11 (c := b11) rfl rfl (args := [.lst 5 (L.map encC) .open_, .lst 5 (M.map encC) .open_]) (h := []) hk hr) hn rfl h
    | true =>
      rw [hf] at hT
      have hk : KOK E0 26 [] b11 (kAt [1,1,0,1] (st11 L M 0) [] .normal (st11 L M L.length) []) := kAt_ok (Tri.block (id := 0) (Tri.loop hT))
      have ht := p11n L M
      rw [hd] at ht
      have hr := (congrArg T.run ht).trans (askS_run rfl rfl)
      exact Con.base noG0 (Con.of_run (X := X11) (f := 11) g0 (noCalls fun _ _ _ => rfl) (fn := Tryd.f11) Tryd.func11 (c := b11) rfl rfl (args := [.lst 5 (L.map encC) .open_, .lst 5 (M.map encC) .open_]) (h := []) hk hr) hn rfl h
  · rw [if_neg hm]
    have hd : (!decide (((L.map encC).length : Int) = ((M.map encC).length : Int))) = true := by simp; omega
    have ht := p11x L M
    rw [hd] at ht
    exact Con.base noG0 (Con.of_run (X := X11) (f := 11) g0 (noCalls fun _ _ _ => rfl) (fn := Tryd.f11) Tryd.func11 (c := b11) rfl rfl (args := [.lst 5 (L.map encC) .open_, .lst 5 (M.map encC) .open_]) (h := []) (kNo_ok (p := [1,1,0,1])) (congrArg T.run ht)) hn rfl h
noncomputable def X7 (L : List Cst) (c : Cst) (r : Int) : SX := { E := E0, f := 7, con := fun _ => false, split := fun _ => false, call := callsAt [(27, [.lst 5 (L.map encC) .open_, encC c], .int .i64 r)] }
noncomputable def X10 (L : List Cst) (c : Cst) (r : Int) (b : Bool) : SX := { E := E0, f := 10, con := fun _ => false, split := fun d => [10, 14, 21].contains d, call := callsAt [(16, [encC c], .bool b), (8, [.lst 5 (L.map encC) .open_, encC c], .int .i64 r)] }
noncomputable def C1 : FuncId → List AV → Option AV := fun f args => if f = 28 then (match args with
  | [.lst 5 l .open_] => some (.lst 5 l .clip)
  | _ => none) else none
noncomputable def E1 : Env := { E0 with C := C1, LC := fun f => f == 28 }
noncomputable def X9 (L : List Cst) (c : Cst) (r : Int) (b : Bool) : SX := { E := E1, f := 9, con := fun _ => false, split := fun d => [11, 15, 20].contains d, call := callsAt [(15, [encC c], .bool b), (7, [.lst 5 (L.map encC) .open_, encC c], .int .i64 r)] }
theorem p7 (L : List Cst) (c : Cst) (r : Int) : runF (X7 L c r) (fun _ => none) Tryd.f7 b7 [.lst 5 (L.map encC) .open_, encC c] [] =
  (T.br (askS
  [AV.lst (5 : Nat) (List.map encC L) Tl.open_,
    AV.agg [AV.int IntKind.i64 c.1, AV.int IntKind.i64 c.2, AV.str c.3, AV.str c.4, AV.str c.5]]
  [AV.lst (5 : Nat) (List.map encC L) Tl.open_,
    AV.agg [AV.int IntKind.i64 c.1, AV.int IntKind.i64 c.2, AV.str c.3, AV.str c.4, AV.str c.5]]
  [] [])
    (T.leaf (AV.int IntKind.i64 r,
  [Blk.var [AV.int IntKind.i64 c.1, AV.int IntKind.i64 c.2, AV.str c.3, AV.str c.4, AV.str c.5]]))
    T.fail) := by kernel_rfl
theorem p28h (l : List AV) (h : H) : runF X28 (fun _ => none) Tryd.f28 b28 [.lst 5 l .open_] h =
  (T.br true
    (T.br true
      (T.br (decide ((0 : Nat) ≤ (↑l.length : Int).toNat) && decide ((↑l.length : Int).toNat ≤ l.length) &&
  decide ((↑l.length : Int).toNat = (↑l.length : Int).toNat))
        (T.leaf (AV.lst 5 (List.take ((↑l.length : Int).toNat - 0) l) Tl.clip, h))
        T.fail)
      T.fail)
    T.fail) := by kernel_rfl
theorem con7 (L : List Cst) (c : Cst) (hl : L.length < 1000000000000000) (h : H) : Con E0 7 [.lst 5 (L.map encC) .open_, encC c] h (.int .i64 (resF (from_ L c L.length 0))) h := by
  have hn : noRefs [AV.lst 5 (L.map encC) .open_, encC c] = true := by
    simp only [noRefs, noRef, noRefs_enc, Bool.and_true, Bool.true_and]; rfl
  have hcall : CallOK (X7 L c (resF (from_ L c L.length 0))).E (X7 L c (resF (from_ L c L.length 0))).calls := callsAt_ok rfl fun q hq h => by
    obtain rfl := List.mem_singleton.1 hq
    exact con27 L c hl h
  have hr := (congrArg T.run (p7 L c (resF (from_ L c L.length 0)))).trans (askS_run rfl rfl)
  exact Con.base noG0 (Con.of_run (X := X7 L c (resF (from_ L c L.length 0))) (f := 7) g0 hcall (fn := Tryd.f7) Tryd.func7 (c := b7) rfl rfl (args := [.lst 5 (L.map encC) .open_, encC c]) (h := []) KOK.none hr) hn rfl h
theorem con28 (l : List AV) (h : H) : Con E0 28 [.lst 5 l .open_] h (.lst 5 l .clip) h := by
  have ht := p28h l h
  have h1 : (decide (0 ≤ ((l.length : Nat) : Int).toNat) && decide (((l.length : Nat) : Int).toNat ≤ l.length) && decide (((l.length : Nat) : Int).toNat = ((l.length : Nat) : Int).toNat)) = true := by simp
  rw [h1] at ht
  have h2 : (AV.lst 5 (List.take (((l.length : Nat) : Int).toNat - 0) l) Tl.clip) = .lst 5 l .clip := by
    rw [Int.toNat_natCast, Nat.sub_zero, List.take_length]
  rw [h2] at ht
  exact Con.of_run (X := X28) (f := 28) g0 (noCalls fun _ _ _ => rfl) (fn := Tryd.f28) Tryd.func28 (c := b28) rfl rfl (args := [.lst 5 l .open_]) (h := h) KOK.none (congrArg T.run ht)
theorem p10 (L : List Cst) (c : Cst) (r : Int) (b : Bool) : runF (X10 L c r b) (fun _ => none) Tryd.f10 b10 [.lst 5 (L.map encC) .open_, encC c] [] =
  (T.br (askS [AV.agg [AV.int IntKind.i64 c.1, AV.int IntKind.i64 c.2, AV.str c.3, AV.str c.4, AV.str c.5]]
  [AV.agg [AV.int IntKind.i64 c.1, AV.int IntKind.i64 c.2, AV.str c.3, AV.str c.4, AV.str c.5]] [] [])
    (T.br (!b)
      (T.leaf (AV.tup [AV.nils, AV.int IntKind.i64 0, AV.int IntKind.i64 11],
  [Blk.var [AV.int IntKind.i64 c.1, AV.int IntKind.i64 c.2, AV.str c.3, AV.str c.4, AV.str c.5]]))
      (T.br (askS
  [AV.lst (5 : Nat) (List.map encC L) Tl.open_,
    AV.agg [AV.int IntKind.i64 c.1, AV.int IntKind.i64 c.2, AV.str c.3, AV.str c.4, AV.str c.5]]
  [AV.lst (5 : Nat) (List.map encC L) Tl.open_,
    AV.agg [AV.int IntKind.i64 c.1, AV.int IntKind.i64 c.2, AV.str c.3, AV.str c.4, AV.str c.5]]
  [] [])
        (T.br (decide ((0 : Int) ≤ r))
          (T.br (askS
  [AV.lst (5 : Nat) (List.map encC L) Tl.open_,
    AV.agg [AV.int IntKind.i64 c.1, AV.int IntKind.i64 c.2, AV.str c.3, AV.str c.4, AV.str c.5]]
  [AV.lst (5 : Nat) (List.map encC L) Tl.open_,
    AV.agg [AV.int IntKind.i64 c.1, AV.int IntKind.i64 c.2, AV.str c.3, AV.str c.4, AV.str c.5]]
  [] [])
            (T.leaf (AV.tup [AV.lst 5 (List.map encC L) Tl.open_, AV.int IntKind.i64 r, AV.int IntKind.i64 0],
  [Blk.var [AV.int IntKind.i64 c.1, AV.int IntKind.i64 c.2, AV.str c.3, AV.str c.4, AV.str c.5]]))
            T.fail)
          (T.br (decide ((256 : Int) ≤ (↑(List.map encC L).length : Int)))
            (T.leaf (AV.tup [AV.nils, AV.int IntKind.i64 0, AV.int IntKind.i64 17],
  [Blk.var [AV.int IntKind.i64 c.1, AV.int IntKind.i64 c.2, AV.str c.3, AV.str c.4, AV.str c.5]]))
            (T.br (decide (((0 : Nat) + (List.map encC L).length) * (64 : Nat) ≤ (140000000000000 : Nat)) &&
    decide ((0 : Nat) + (List.map encC L).length ≤ (140000000000000 : Nat)) &&
  (List.map encC L).all fun y => y.cells.all AV.leaf)
              (T.br ((List.map encC L).isEmpty)
                (T.br true
                  (T.br false
                    (T.leaf (AV.tup
    [AV.nils, AV.int IntKind.i64 (↑(List.map encC L).length : Int), AV.int IntKind.i64 0],
  [Blk.var [AV.int IntKind.i64 c.1, AV.int IntKind.i64 c.2, AV.str c.3, AV.str c.4, AV.str c.5], Blk.tail]))
                    (T.leaf (AV.tup
    [AV.lst 5 [AV.agg [AV.int IntKind.i64 c.1, AV.int IntKind.i64 c.2, AV.str c.3, AV.str c.4, AV.str c.5]] (Tl.own 2),
      AV.int IntKind.i64 (↑(List.map encC L).length : Int), AV.int IntKind.i64 0],
  [Blk.var [AV.int IntKind.i64 c.1, AV.int IntKind.i64 c.2, AV.str c.3, AV.str c.4, AV.str c.5], Blk.tail, Blk.tail])))
                  T.fail)
                (T.br (decide (((List.map encC L).length + (1 : Nat)) * (64 : Nat) ≤ (140000000000000 : Nat)) &&
    decide ((List.map encC L).length + (1 : Nat) ≤ (140000000000000 : Nat)) &&
  [AV.agg [AV.int IntKind.i64 c.1, AV.int IntKind.i64 c.2, AV.str c.3, AV.str c.4, AV.str c.5]].all fun y =>
    y.cells.all AV.leaf)
                  (T.leaf (AV.tup
    [AV.lst 5
        (List.map encC L ++
          [AV.agg [AV.int IntKind.i64 c.1, AV.int IntKind.i64 c.2, AV.str c.3, AV.str c.4, AV.str c.5]])
        (Tl.own 3),
      AV.int IntKind.i64 (↑(List.map encC L).length : Int), AV.int IntKind.i64 0],
  [Blk.var [AV.int IntKind.i64 c.1, AV.int IntKind.i64 c.2, AV.str c.3, AV.str c.4, AV.str c.5], Blk.dead, Blk.tail,
    Blk.tail]))
                  T.fail))
              T.fail)))
        T.fail))
    T.fail) := by kernel_rfl
theorem brT {b : Bool} {t f : T (AV × H)} {x : R (AV × H)} (hb : b = true) (ht : t.run = x) : (T.br b t f).run = x := by subst hb; exact ht
theorem brF {b : Bool} {t f : T (AV × H)} {x : R (AV × H)} (hb : b = false) (ht : f.run = x) : (T.br b t f).run = x := by subst hb; exact ht
theorem askSq {vs ws : List AV} {t f : T (AV × H)} {r : AV × H} (ht : t.run = .ok r) (hv : vs = ws := by rfl) : (T.br (askS vs ws [] []) t f).run = .ok r := by
  subst hv; rw [askS_self]; exact ht
/-- what adding comes to: the list, the place, the error. -/
def addC (L : List Cst) (c : Cst) (b : Bool) (r : Int) : List Cst × Int × Int :=
  if b = false then ([], 0, 11) else if 0 ≤ r then (L, r, 0) else if 256 ≤ L.length then ([], 0, 17) else (L ++ [c], L.length, 0)
def addV (a : List Cst × Int × Int) : AV := .tup [.lst 5 (a.1.map encC) .open_, .int .i64 a.2.1, .int .i64 a.2.2]
theorem addV_noRef (a : List Cst × Int × Int) : noRef (addV a) = true := by
  simp only [addV, noRef, noRefs, noRefs_enc, Bool.and_true, Bool.true_and]
theorem leTup {x y : AV} {m n : Int} (h : Le x y) : Le (.tup [x, .int .i64 m, .int .i64 n]) (.tup [y, .int .i64 m, .int .i64 n]) := Le.tup (.cons h (Les.refl _))
theorem leaves_enc (L : List Cst) : ((L.map encC).all fun y => y.cells.all AV.leaf) = true := by
  rw [List.all_map]; exact List.all_eq_true.2 fun _ _ => rfl
theorem con10 (L : List Cst) (c : Cst) (hl : L.length < 1000000000000000) (b : Bool) (hb : ∀ h, Con E0 16 [encC c] h (.bool b) h) (h : H) :
    Con E0 10 [.lst 5 (L.map encC) .open_, encC c] h (addV (addC L c b (resF (from_ L c L.length 0)))) h := by
  have hn : noRefs [AV.lst 5 (L.map encC) .open_, encC c] = true := by
    simp only [noRefs, noRef, noRefs_enc, Bool.and_true, Bool.true_and]; rfl
  obtain ⟨r, hr0⟩ : ∃ r, r = resF (from_ L c L.length 0) := ⟨_, rfl⟩
  rw [← hr0]
  have hcall : CallOK (X10 L c r b).E (X10 L c r b).calls := callsAt_ok rfl fun q hq h => by
    rcases List.mem_cons.1 hq with rfl | hq
    · exact hb h
    · obtain rfl := List.mem_singleton.1 hq
      rw [hr0]; exact con8 L c hl h
  have key : ∀ {v h'}, (runF (X10 L c r b) (fun _ => none) Tryd.f10 b10 [.lst 5 (L.map encC) .open_, encC c] []).run = .ok (v, h') → Le v (addV (addC L c b r)) → Con E0 10 [.lst 5 (L.map encC) .open_, encC c] h (addV (addC L c b r)) h := fun hr hle =>
    Con.based noG0 (Con.of_run (X := X10 L c r b) (f := 10) g0 hcall (fn := Tryd.f10) Tryd.func10 (c := b10) rfl rfl (args := [.lst 5 (L.map encC) .open_, encC c]) (h := []) KOK.none hr) hn hle (addV_noRef _) h
  have ht := congrArg T.run (p10 L c r b)
  have hself : ∀ (vs : List AV) (a t : T (AV × H)), (T.br (askS vs vs [] []) a t).run = a.run := fun vs a t => by rw [askS_self]; rfl
  cases b with
  | false => exact key (ht.trans (askSq rfl)) (by simp only [addC, if_true]; exact leTup (Le.nils nofun))
  | true =>
    by_cases h0 : 0 ≤ r
    · exact key (ht.trans (askSq (brF rfl (askSq (brT (decide_eq_true h0) (askSq rfl)))))) (by simp only [addC, Bool.true_eq_false, if_false, if_pos h0]; exact leTup Le.open_)
    · have e0 := decide_eq_false h0
      by_cases h2 : 256 ≤ L.length
      · exact key (ht.trans (askSq (brF rfl (askSq (brF e0 (brT (by simp; omega) rfl)))))) (by simp only [addC, Bool.true_eq_false, if_false, if_neg h0, if_pos h2]; exact leTup (Le.nils nofun))
      · have hlen : (L.map encC).length = L.length := by simp
        have hA : addC L c true r = (L ++ [c], (L.length : Int), 0) := by simp only [addC, Bool.true_eq_false, if_false, if_neg h0, if_neg h2]
        have c1 : (decide ((0 + (L.map encC).length) * 64 ≤ 140000000000000) && decide (0 + (L.map encC).length ≤ 140000000000000) && (L.map encC).all fun y => y.cells.all AV.leaf) = true := by
          rw [leaves_enc, hlen, decide_eq_true (by omega), decide_eq_true (by omega)]; rfl
        have c2 : (decide (((L.map encC).length + 1) * 64 ≤ 140000000000000) && decide ((L.map encC).length + 1 ≤ 140000000000000) && [encC c].all fun y => y.cells.all AV.leaf) = true := by
          rw [hlen, decide_eq_true (by omega), decide_eq_true (by omega)]; rfl
        cases L with
        | nil => exact key (ht.trans (askSq (brF rfl (askSq (brF e0 (brF (by simp) (brT c1 (brT rfl (brT rfl (brF rfl rfl)))))))))) (by rw [hA]; exact leTup Le.open_)
        | cons x L => exact key (ht.trans (askSq (brF rfl (askSq (brF e0 (brF (by simp at h2 ⊢; omega) (brT c1 (brF rfl (brT c2 rfl))))))))) (by rw [hA]; simp only [addV, List.map_append, List.map_cons, List.map_nil, List.length_map, List.length_cons]; exact leTup Le.open_)
theorem p9 (L : List Cst) (c : Cst) (r : Int) (b : Bool) : runF (X9 L c r b) (fun _ => none) Tryd.f9 b9 [.lst 5 (L.map encC) .open_, encC c] [] =
  (T.br (askS
  [AV.lst (5 : Nat) (List.map encC L) Tl.open_,
    AV.agg [AV.int IntKind.i64 c.1, AV.int IntKind.i64 c.2, AV.str c.3, AV.str c.4, AV.str c.5]]
  [AV.lst (5 : Nat) (List.map encC L) Tl.open_,
    AV.agg [AV.int IntKind.i64 c.1, AV.int IntKind.i64 c.2, AV.str c.3, AV.str c.4, AV.str c.5]]
  [] [])
    (T.br (askS [AV.agg [AV.int IntKind.i64 c.1, AV.int IntKind.i64 c.2, AV.str c.3, AV.str c.4, AV.str c.5]]
  [AV.agg [AV.int IntKind.i64 c.1, AV.int IntKind.i64 c.2, AV.str c.3, AV.str c.4, AV.str c.5]] [] [])
      (T.br (!b)
        (T.leaf (AV.tup [AV.nils, AV.int IntKind.i64 0, AV.int IntKind.i64 11],
  [Blk.var [AV.int IntKind.i64 c.1, AV.int IntKind.i64 c.2, AV.str c.3, AV.str c.4, AV.str c.5]]))
        (T.br (decide ((0 : Int) ≤ r))
          (T.leaf (AV.tup [AV.lst 5 (List.map encC L) Tl.open_, AV.int IntKind.i64 r, AV.int IntKind.i64 0],
  [Blk.var [AV.int IntKind.i64 c.1, AV.int IntKind.i64 c.2, AV.str c.3, AV.str c.4, AV.str c.5]]))
          (T.br (decide ((256 : Int) ≤ (↑(List.map encC L).length : Int)))
            (T.leaf (AV.tup [AV.nils, AV.int IntKind.i64 0, AV.int IntKind.i64 17],
  [Blk.var [AV.int IntKind.i64 c.1, AV.int IntKind.i64 c.2, AV.str c.3, AV.str c.4, AV.str c.5]]))
            (T.br (decide (((List.map encC L).length + (1 : Nat)) * (64 : Nat) ≤ (140000000000000 : Nat)) &&
    decide ((List.map encC L).length + (1 : Nat) ≤ (140000000000000 : Nat)) &&
  [AV.agg [AV.int IntKind.i64 c.1, AV.int IntKind.i64 c.2, AV.str c.3, AV.str c.4, AV.str c.5]].all fun y =>
    y.cells.all AV.leaf)
              (T.br false
                (T.leaf (AV.tup
    [AV.lst 5 (List.map encC L) Tl.clip, AV.int IntKind.i64 (↑(List.map encC L).length : Int), AV.int IntKind.i64 0],
  [Blk.var [AV.int IntKind.i64 c.1, AV.int IntKind.i64 c.2, AV.str c.3, AV.str c.4, AV.str c.5], Blk.tail]))
                (T.leaf (AV.tup
    [AV.lst 5
        (List.map encC L ++
          [AV.agg [AV.int IntKind.i64 c.1, AV.int IntKind.i64 c.2, AV.str c.3, AV.str c.4, AV.str c.5]])
        (Tl.own 2),
      AV.int IntKind.i64 (↑(List.map encC L).length : Int), AV.int IntKind.i64 0],
  [Blk.var [AV.int IntKind.i64 c.1, AV.int IntKind.i64 c.2, AV.str c.3, AV.str c.4, AV.str c.5], Blk.tail, Blk.tail])))
              T.fail))))
      T.fail)
    T.fail) := by kernel_rfl
theorem cok1 : COK E1 := by
  intro f args h r h' hc
  have hc' : (match C1 f args with
    | some r => R.ok (thaw h r)
    | none => .no "") = .ok (r, h') := hc
  unfold C1 at hc'
  by_cases hf : f = 28
  · subst hf
    rw [if_pos rfl] at hc'
    split at hc'
    · rename_i r' hr'
      split at hr'
      · cases hr'
        cases hc'
        exact Con.env (E := E0) (E' := E1) rfl rfl (con28 _ h)
      · cases hr'
    · cases hc'
  · rw [if_neg hf] at hc'
    cases hc'
theorem g1 : Ground E1 := ⟨fun t h => by simpa [E1, E0] using h, cok1, bok_none (fun _ => rfl), by kernel_rfl⟩
theorem con9 (L : List Cst) (c : Cst) (hl : L.length < 1000000000000000) (b : Bool) (hb : ∀ h, Con E0 15 [encC c] h (.bool b) h) (h : H) :
    Con E0 9 [.lst 5 (L.map encC) .open_, encC c] h (addV (addC L c b (resF (from_ L c L.length 0)))) h := by
  have hn : noRefs [AV.lst 5 (L.map encC) .open_, encC c] = true := by
    simp only [noRefs, noRef, noRefs_enc, Bool.and_true, Bool.true_and]; rfl
  obtain ⟨r, hr0⟩ : ∃ r, r = resF (from_ L c L.length 0) := ⟨_, rfl⟩
  rw [← hr0]
  have hcall : CallOK (X9 L c r b).E (X9 L c r b).calls := callsAt_ok rfl fun q hq h => by
    rcases List.mem_cons.1 hq with rfl | hq
    · exact Con.env (E := E0) (E' := E1) rfl rfl (hb h)
    · obtain rfl := List.mem_singleton.1 hq
      rw [hr0]; exact Con.env (E := E0) (E' := E1) rfl rfl (con7 L c hl h)
  have key : ∀ {v h'}, (runF (X9 L c r b) (fun _ => none) Tryd.f9 b9 [.lst 5 (L.map encC) .open_, encC c] []).run = .ok (v, h') → Le v (addV (addC L c b r)) → Con E0 9 [.lst 5 (L.map encC) .open_, encC c] h (addV (addC L c b r)) h := fun hr hle =>
    Con.based noG0 (Con.env (E := E1) (E' := E0) rfl rfl (Con.of_run (X := X9 L c r b) (f := 9) g1 hcall (fn := Tryd.f9) Tryd.func9 (c := b9) rfl rfl (args := [.lst 5 (L.map encC) .open_, encC c]) (h := []) KOK.none hr)) hn hle (addV_noRef _) h
  have ht := congrArg T.run (p9 L c r b)
  cases b with
  | false => exact key (ht.trans (askSq (askSq rfl))) (by simp only [addC, if_true]; exact leTup (Le.nils nofun))
  | true =>
    by_cases h0 : 0 ≤ r
    · exact key (ht.trans (askSq (askSq (brF rfl (brT (decide_eq_true h0) rfl))))) (by simp only [addC, Bool.true_eq_false, if_false, if_pos h0]; exact leTup Le.open_)
    · have e0 := decide_eq_false h0
      by_cases h2 : 256 ≤ L.length
      · exact key (ht.trans (askSq (askSq (brF rfl (brF e0 (brT (by simp; omega) rfl)))))) (by simp only [addC, Bool.true_eq_false, if_false, if_neg h0, if_pos h2]; exact leTup (Le.nils nofun))
      · have hlen : (L.map encC).length = L.length := by simp
        have hA : addC L c true r = (L ++ [c], (L.length : Int), 0) := by simp only [addC, Bool.true_eq_false, if_false, if_neg h0, if_neg h2]
        have c2 : (decide (((L.map encC).length + 1) * 64 ≤ 140000000000000) && decide ((L.map encC).length + 1 ≤ 140000000000000) && [encC c].all fun y => y.cells.all AV.leaf) = true := by
          rw [hlen, decide_eq_true (by omega), decide_eq_true (by omega)]; rfl
        exact key (ht.trans (askSq (askSq (brF rfl (brF e0 (brF (by simp; omega) (brT c2 (brF rfl rfl)))))))) (by rw [hA]; simp only [addV, List.map_append, List.map_cons, List.map_nil, List.length_map]; exact leTup Le.open_)
noncomputable def b3 : Code := (Tryd.f3.body).getD .skip
noncomputable def X3 (X P : List Cst) (c : Cst) (r n e : Int) : SX := { E := E0, f := 3, con := fun _ => false, split := fun d => [17, 21, 28, 43, 68, 73, 77, 79, 87, 95].contains d, call := callsAt [(7, [.lst 5 (X.map encC) .open_, encC c], .int .i64 r), (8, [.lst 5 (X.map encC) .open_, encC c], .int .i64 r), (9, [.lst 5 (X.map encC) .open_, encC c], addV (P, n, e)), (10, [.lst 5 (X.map encC) .open_, encC c], addV (P, n, e)), (11, [.lst 5 (P.map encC) .open_, .lst 5 (P.map encC) .open_], .bool true)] }
def st3 (L M X : List Cst) (j : Nat) : List (Nat × AV) := [(0, .lst 5 (L.map encC) .open_), (1, .lst 5 (M.map encC) .open_), (5, .lst 5 (X.map encC) .open_), (6, .lst 5 (X.map encC) .open_), (7, .int .i64 j)]
noncomputable def X3l (L : List Cst) : SX := { E := E0, f := 3, con := fun _ => false, split := fun d => [17, 21, 28, 43, 68, 73, 77, 79, 87, 95].contains d, call := callsAt [(6, [], .bool true), (11, [.lst 5 (L.map encC) .open_, .lst 5 (L.map encC) .open_], .bool true)] }
noncomputable def X3b : SX := { E := E0, f := 3, con := fun _ => false, split := fun d => [17, 21, 28, 43, 68, 73, 77, 79, 87, 95].contains d, call := callsAt [(6, [], .bool true)] }
theorem p3 (L M X P : List Cst) (c : Cst) (i : Int) (r n e : Int) : obsK (X3 X P c r n e) (fun _ => none) 98 (sub b3 [1,1,1,1,0,1,0,0]) [1,1,1,1,0,1,0,0] (frm [(0, .lst 5 (L.map encC) .open_), (1, .lst 5 (M.map encC) .open_), (5, .lst 5 (X.map encC) .open_), (6, .lst 5 (X.map encC) .open_), (7, .int .i64 i)]) [] [0,1,5,6,7] =
  (T.br (decide (i < (↑(List.map encC M).length : Int)))
    (T.br (decide ((0 : Int) ≤ i) && decide (i < (↑(List.map encC M).length : Int)) &&
  fitsC Tryd.prog (26 : Nat) ((List.map encC M).getD i.toNat undef))
      (T.br (askS
  [AV.lst (5 : Nat) (List.map encC X) Tl.open_,
    AV.agg
      [AV.int IntKind.i64 (((List.map encC M).getD i.toNat undef).cells.getD (0 : Nat) undef).toI,
        AV.int IntKind.i64 (((List.map encC M).getD i.toNat undef).cells.getD (1 : Nat) undef).toI,
        AV.str (((List.map encC M).getD i.toNat undef).cells.getD (2 : Nat) undef).toS,
        AV.str (((List.map encC M).getD i.toNat undef).cells.getD (3 : Nat) undef).toS,
        AV.str (((List.map encC M).getD i.toNat undef).cells.getD (4 : Nat) undef).toS]]
  [AV.lst (5 : Nat) (List.map encC X) Tl.open_,
    AV.agg [AV.int IntKind.i64 c.1, AV.int IntKind.i64 c.2, AV.str c.3, AV.str c.4, AV.str c.5]]
  [] [])
        (T.br (decide ((0 : Int) ≤ i) && decide (i < (↑(List.map encC M).length : Int)) &&
  fitsC Tryd.prog (26 : Nat) ((List.map encC M).getD i.toNat undef))
          (T.br (askS
  [AV.lst (5 : Nat) (List.map encC X) Tl.open_,
    AV.agg
      [AV.int IntKind.i64 (((List.map encC M).getD i.toNat undef).cells.getD (0 : Nat) undef).toI,
        AV.int IntKind.i64 (((List.map encC M).getD i.toNat undef).cells.getD (1 : Nat) undef).toI,
        AV.str (((List.map encC M).getD i.toNat undef).cells.getD (2 : Nat) undef).toS,
        AV.str (((List.map encC M).getD i.toNat undef).cells.getD (3 : Nat) undef).toS,
        AV.str (((List.map encC M).getD i.toNat undef).cells.getD (4 : Nat) undef).toS]]
  [AV.lst (5 : Nat) (List.map encC X) Tl.open_,
    AV.agg [AV.int IntKind.i64 c.1, AV.int IntKind.i64 c.2, AV.str c.3, AV.str c.4, AV.str c.5]]
  [] [])
            (T.br (!decide (r = r))
              (T.leaf (AM.X.ret,
  [AV.lst 5 (List.map encC L) Tl.open_, AV.lst 5 (List.map encC M) Tl.open_, AV.lst 5 (List.map encC X) Tl.open_,
    AV.lst 5 (List.map encC X) Tl.open_, AV.int IntKind.i64 i],
  []))
              (T.br (decide ((0 : Int) ≤ i) && decide (i < (↑(List.map encC M).length : Int)) &&
  fitsC Tryd.prog (26 : Nat) ((List.map encC M).getD i.toNat undef))
                (T.br (askS
  [AV.lst (5 : Nat) (List.map encC X) Tl.open_,
    AV.agg
      [AV.int IntKind.i64 (((List.map encC M).getD i.toNat undef).cells.getD (0 : Nat) undef).toI,
        AV.int IntKind.i64 (((List.map encC M).getD i.toNat undef).cells.getD (1 : Nat) undef).toI,
        AV.str (((List.map encC M).getD i.toNat undef).cells.getD (2 : Nat) undef).toS,
        AV.str (((List.map encC M).getD i.toNat undef).cells.getD (3 : Nat) undef).toS,
        AV.str (((List.map encC M).getD i.toNat undef).cells.getD (4 : Nat) undef).toS]]
  [AV.lst (5 : Nat) (List.map encC X) Tl.open_,
    AV.agg [AV.int IntKind.i64 c.1, AV.int IntKind.i64 c.2, AV.str c.3, AV.str c.4, AV.str c.5]]
  [] [])
                  (T.br (decide ((0 : Int) ≤ i) && decide (i < (↑(List.map encC M).length : Int)) &&
  fitsC Tryd.prog (26 : Nat) ((List.map encC M).getD i.toNat undef))
                    (T.br (askS
  [AV.lst (5 : Nat) (List.map encC X) Tl.open_,
    AV.agg
      [AV.int IntKind.i64 (((List.map encC M).getD i.toNat undef).cells.getD (0 : Nat) undef).toI,
        AV.int IntKind.i64 (((List.map encC M).getD i.toNat undef).cells.getD (1 : Nat) undef).toI,
        AV.str (((List.map encC M).getD i.toNat undef).cells.getD (2 : Nat) undef).toS,
        AV.str (((List.map encC M).getD i.toNat undef).cells.getD (3 : Nat) undef).toS,
        AV.str (((List.map encC M).getD i.toNat undef).cells.getD (4 : Nat) undef).toS]]
  [AV.lst (5 : Nat) (List.map encC X) Tl.open_,
    AV.agg [AV.int IntKind.i64 c.1, AV.int IntKind.i64 c.2, AV.str c.3, AV.str c.4, AV.str c.5]]
  [] [])
                      (T.br (askS
  [AV.lst (5 : Nat) (List.map encC P) Tl.open_, AV.lst (5 : Nat) (List.map encC P) Tl.open_]
  [AV.lst (5 : Nat) (List.map encC P) Tl.open_, AV.lst (5 : Nat) (List.map encC P) Tl.open_] [] [])
                        (T.br false
                          (T.br true
                            (T.br true
                              (T.leaf (AM.X.ret,
  [AV.lst 5 (List.map encC L) Tl.open_, AV.lst 5 (List.map encC M) Tl.open_, AV.lst 5 (List.map encC X) Tl.open_,
    AV.lst 5 (List.map encC X) Tl.open_, AV.int IntKind.i64 i],
  []))
                              (T.br (decide (e = (0 : Int)))
                                (T.leaf (AM.X.normal,
  [AV.lst 5 (List.map encC L) Tl.open_, AV.lst 5 (List.map encC M) Tl.open_, AV.lst 5 (List.map encC P) Tl.open_,
    AV.lst 5 (List.map encC P) Tl.open_, AV.int IntKind.i64 (IntKind.i64.wrap (i + 1))],
  []))
                                (T.leaf (AM.X.normal,
  [AV.lst 5 (List.map encC L) Tl.open_, AV.lst 5 (List.map encC M) Tl.open_, AV.lst 5 (List.map encC X) Tl.open_,
    AV.lst 5 (List.map encC X) Tl.open_, AV.int IntKind.i64 (IntKind.i64.wrap (i + 1))],
  []))))
                            (T.br (!decide (e = e))
                              (T.leaf (AM.X.ret,
  [AV.lst 5 (List.map encC L) Tl.open_, AV.lst 5 (List.map encC M) Tl.open_, AV.lst 5 (List.map encC X) Tl.open_,
    AV.lst 5 (List.map encC X) Tl.open_, AV.int IntKind.i64 i],
  []))
                              (T.br (decide (e = (0 : Int)))
                                (T.leaf (AM.X.normal,
  [AV.lst 5 (List.map encC L) Tl.open_, AV.lst 5 (List.map encC M) Tl.open_, AV.lst 5 (List.map encC P) Tl.open_,
    AV.lst 5 (List.map encC P) Tl.open_, AV.int IntKind.i64 (IntKind.i64.wrap (i + 1))],
  []))
                                (T.leaf (AM.X.normal,
  [AV.lst 5 (List.map encC L) Tl.open_, AV.lst 5 (List.map encC M) Tl.open_, AV.lst 5 (List.map encC X) Tl.open_,
    AV.lst 5 (List.map encC X) Tl.open_, AV.int IntKind.i64 (IntKind.i64.wrap (i + 1))],
  [])))))
                          (T.br (!decide (n = n))
                            (T.br true
                              (T.leaf (AM.X.ret,
  [AV.lst 5 (List.map encC L) Tl.open_, AV.lst 5 (List.map encC M) Tl.open_, AV.lst 5 (List.map encC X) Tl.open_,
    AV.lst 5 (List.map encC X) Tl.open_, AV.int IntKind.i64 i],
  []))
                              (T.br (decide (e = (0 : Int)))
                                (T.leaf (AM.X.normal,
  [AV.lst 5 (List.map encC L) Tl.open_, AV.lst 5 (List.map encC M) Tl.open_, AV.lst 5 (List.map encC P) Tl.open_,
    AV.lst 5 (List.map encC P) Tl.open_, AV.int IntKind.i64 (IntKind.i64.wrap (i + 1))],
  []))
                                (T.leaf (AM.X.normal,
  [AV.lst 5 (List.map encC L) Tl.open_, AV.lst 5 (List.map encC M) Tl.open_, AV.lst 5 (List.map encC X) Tl.open_,
    AV.lst 5 (List.map encC X) Tl.open_, AV.int IntKind.i64 (IntKind.i64.wrap (i + 1))],
  []))))
                            (T.br (!decide (e = e))
                              (T.leaf (AM.X.ret,
  [AV.lst 5 (List.map encC L) Tl.open_, AV.lst 5 (List.map encC M) Tl.open_, AV.lst 5 (List.map encC X) Tl.open_,
    AV.lst 5 (List.map encC X) Tl.open_, AV.int IntKind.i64 i],
  []))
                              (T.br (decide (e = (0 : Int)))
                                (T.leaf (AM.X.normal,
  [AV.lst 5 (List.map encC L) Tl.open_, AV.lst 5 (List.map encC M) Tl.open_, AV.lst 5 (List.map encC P) Tl.open_,
    AV.lst 5 (List.map encC P) Tl.open_, AV.int IntKind.i64 (IntKind.i64.wrap (i + 1))],
  []))
                                (T.leaf (AM.X.normal,
  [AV.lst 5 (List.map encC L) Tl.open_, AV.lst 5 (List.map encC M) Tl.open_, AV.lst 5 (List.map encC X) Tl.open_,
    AV.lst 5 (List.map encC X) Tl.open_, AV.int IntKind.i64 (IntKind.i64.wrap (i + 1))],
  []))))))
                        T.fail)
                      T.fail)
                    T.fail)
                  T.fail)
                T.fail))
            T.fail)
          T.fail)
        T.fail)
      T.fail)
    (T.leaf (AM.X.exit 0,
  [AV.lst 5 (List.map encC L) Tl.open_, AV.lst 5 (List.map encC M) Tl.open_, AV.lst 5 (List.map encC X) Tl.open_,
    AV.lst 5 (List.map encC X) Tl.open_, AV.int IntKind.i64 i],
  []))) := by kernel_rfl
theorem p3n (L M X : List Cst) : obsK X3b (fun _ => none) 98 (sub b3 [1,1,1,1,0,1,0,0]) [1,1,1,1,0,1,0,0] (frm [(0, .lst 5 (L.map encC) .open_), (1, .lst 5 (M.map encC) .open_), (5, .lst 5 (X.map encC) .open_), (6, .lst 5 (X.map encC) .open_), (7, .int .i64 (M.length : Nat))]) [] [0,1,5,6,7] =
  (T.br (decide ((↑M.length : Int) < (↑(List.map encC M).length : Int)))
    (T.br (decide ((0 : Int) ≤ (↑M.length : Int)) && decide ((↑M.length : Int) < (↑(List.map encC M).length : Int)) &&
  fitsC Tryd.prog (26 : Nat) ((List.map encC M).getD (↑M.length : Int).toNat undef))
      T.fail
      T.fail)
    (T.leaf (AM.X.exit 0,
  [AV.lst 5 (List.map encC L) Tl.open_, AV.lst 5 (List.map encC M) Tl.open_, AV.lst 5 (List.map encC X) Tl.open_,
    AV.lst 5 (List.map encC X) Tl.open_, AV.int IntKind.i64 (↑M.length : Int)],
  []))) := by kernel_rfl
theorem p3l (L M Y : List Cst) : runF (X3l L) (kAt [1,1,1,1,0,1] (st3 L M L 0) [] .normal (st3 L M Y M.length) []) Tryd.f3 b3 [.lst 5 (L.map encC) .open_, .lst 5 (M.map encC) .open_] [] =
  (T.br (decide ((300 : Int) < (↑(List.map encC L).length : Int)))
    (T.br true
      (T.br true
        (T.leaf (AV.bool true, []))
        T.fail)
      (T.br (askS
  [AV.lst (5 : Nat) (List.map encC L) Tl.open_, AV.lst (5 : Nat) (List.map encC M) Tl.open_,
    AV.lst (5 : Nat) (List.map encC L) Tl.open_, AV.lst (5 : Nat) (List.map encC L) Tl.open_,
    AV.int IntKind.i64 (0 : Int)]
  [AV.lst (5 : Nat) (List.map encC L) Tl.open_, AV.lst (5 : Nat) (List.map encC M) Tl.open_,
    AV.lst (5 : Nat) (List.map encC L) Tl.open_, AV.lst (5 : Nat) (List.map encC L) Tl.open_,
    AV.int IntKind.i64 (↑(0 : Nat) : Int)]
  [] [])
        (T.br (decide ((↑(List.map encC L).length : Int) ≤ (↑(List.map encC Y).length : Int)))
          (T.br true
            (T.br (decide ((0 : Nat) ≤ (↑(List.map encC L).length : Int).toNat) &&
    decide ((↑(List.map encC L).length : Int).toNat ≤ (List.map encC Y).length) &&
  decide ((↑(List.map encC L).length : Int).toNat = (↑(List.map encC L).length : Int).toNat))
              (T.br (askS
  [AV.lst (5 : Nat)
      (List.take ((↑(List.map encC L).length : Int).toNat - (0 : Nat)) (List.drop (0 : Nat) (List.map encC Y)))
      Tl.open_,
    AV.lst (5 : Nat) (List.map encC L) Tl.open_]
  [AV.lst (5 : Nat) (List.map encC L) Tl.open_, AV.lst (5 : Nat) (List.map encC L) Tl.open_] [] [])
                (T.br true
                  (T.br true
                    (T.leaf (AV.bool true, []))
                    T.fail)
                  (T.leaf (AV.bool false, [])))
                T.fail)
              T.fail)
            T.fail)
          (T.br false
            (T.br true
              (T.leaf (AV.bool true, []))
              T.fail)
            (T.leaf (AV.bool false, []))))
        T.fail))
    (T.br (decide ((60 : Int) < (↑(List.map encC M).length : Int)))
      (T.br true
        (T.leaf (AV.bool true, []))
        T.fail)
      (T.br (askS
  [AV.lst (5 : Nat) (List.map encC L) Tl.open_, AV.lst (5 : Nat) (List.map encC M) Tl.open_,
    AV.lst (5 : Nat) (List.map encC L) Tl.open_, AV.lst (5 : Nat) (List.map encC L) Tl.open_,
    AV.int IntKind.i64 (0 : Int)]
  [AV.lst (5 : Nat) (List.map encC L) Tl.open_, AV.lst (5 : Nat) (List.map encC M) Tl.open_,
    AV.lst (5 : Nat) (List.map encC L) Tl.open_, AV.lst (5 : Nat) (List.map encC L) Tl.open_,
    AV.int IntKind.i64 (↑(0 : Nat) : Int)]
  [] [])
        (T.br (decide ((↑(List.map encC L).length : Int) ≤ (↑(List.map encC Y).length : Int)))
          (T.br true
            (T.br (decide ((0 : Nat) ≤ (↑(List.map encC L).length : Int).toNat) &&
    decide ((↑(List.map encC L).length : Int).toNat ≤ (List.map encC Y).length) &&
  decide ((↑(List.map encC L).length : Int).toNat = (↑(List.map encC L).length : Int).toNat))
              (T.br (askS
  [AV.lst (5 : Nat)
      (List.take ((↑(List.map encC L).length : Int).toNat - (0 : Nat)) (List.drop (0 : Nat) (List.map encC Y)))
      Tl.open_,
    AV.lst (5 : Nat) (List.map encC L) Tl.open_]
  [AV.lst (5 : Nat) (List.map encC L) Tl.open_, AV.lst (5 : Nat) (List.map encC L) Tl.open_] [] [])
                (T.br true
                  (T.br true
                    (T.leaf (AV.bool true, []))
                    T.fail)
                  (T.leaf (AV.bool false, [])))
                T.fail)
              T.fail)
            T.fail)
          (T.br false
            (T.br true
              (T.leaf (AV.bool true, []))
              T.fail)
            (T.leaf (AV.bool false, []))))
        T.fail))) := by kernel_rfl
theorem p3b (L M : List Cst) : runF X3b (kNo [1,1,1,1,0,1]) Tryd.f3 b3 [.lst 5 (L.map encC) .open_, .lst 5 (M.map encC) .open_] [] =
  (T.br (decide ((300 : Int) < (↑(List.map encC L).length : Int)))
    (T.br true
      (T.br true
        (T.leaf (AV.bool true, []))
        T.fail)
      T.fail)
    (T.br (decide ((60 : Int) < (↑(List.map encC M).length : Int)))
      (T.br true
        (T.leaf (AV.bool true, []))
        T.fail)
      T.fail)) := by kernel_rfl
theorem bT {α : Type} {b : Bool} {t f : T α} {x : R α} (hb : b = true) (ht : t.run = x) : (T.br b t f).run = x := by subst hb; exact ht
theorem bF {α : Type} {b : Bool} {t f : T α} {x : R α} (hb : b = false) (ht : f.run = x) : (T.br b t f).run = x := by subst hb; exact ht
theorem bS {α : Type} {vs ws : List AV} {h : H} {t f : T α} {x : R α} (ht : t.run = x) (hv : vs = ws := by rfl) : (T.br (askS vs ws h h) t f).run = x := by
  subst hv; rw [askS_self]; exact ht
/- texts -/
theorem ba_self (a : ByteArray) : (a == a) = true := by
  obtain ⟨a⟩ := a
  show (a == a) = true
  simp
theorem eqC_self (c : Cst) : eqC c c = true := by
  unfold eqC
  rw [ba_self, ba_self, ba_self]; simp
theorem same_self (L : List Cst) : ∀ d j, same_ L L d j = true
  | 0, _ => rfl
  | d + 1, j => by
    simp only [same_]
    rw [eqC_self]; exact same_self L d (j + 1)
theorem sameC_self (L : List Cst) : sameC L L = true := by unfold sameC; rw [if_pos rfl]; exact same_self L _ _
theorem round3 (L M X P : List Cst) (j : Nat) (r n e : Int) (hj : j < M.length) (hl : M.length ≤ 60) :
    (obsK (X3 X P (M.getD j .zero) r n e) (fun _ => none) 98 (sub b3 [1,1,1,1,0,1,0,0]) [1,1,1,1,0,1,0,0] (frm (st3 L M X j)) [] [0,1,5,6,7]).run
      = .ok (.normal, (st3 L M (if e = 0 then P else X) (j + 1)).map (·.2), []) := by
  have ht := p3 L M X P (M.getD j .zero) j r n e
  have hlen : (M.map encC).length = M.length := by simp
  have hc : ((j : Int)).toNat = j := by simp
  rw [hc, getD_enc hj, fits26] at ht
  have h1 : decide ((j : Int) < ((M.map encC).length : Nat)) = true := by rw [hlen]; simp; omega
  have h2 : decide (0 ≤ (j : Int)) = true := by simp
  have hw : IntKind.i64.wrap ((j : Int) + 1) = ((j + 1 : Nat) : Int) := by rw [wrap64 (by omega) (by omega)]; simp
  refine (congrArg T.run ht).trans ?_
  rw [h1, h2, hw]
  refine bT rfl (bT rfl (bS (bT rfl (bS (bF (by simp) (bT rfl (bS (bT rfl (bS (bS (bF rfl (bF (by simp) (bF (by simp) ?_)))))))))))))
  by_cases he : e = 0
  · exact bT (decide_eq_true he) (by rw [if_pos he]; rfl)
  · exact bF (decide_eq_false he) (by rw [if_neg he]; rfl)
theorem out3n (L M X : List Cst) :
    (obsK X3b (fun _ => none) 98 (sub b3 [1,1,1,1,0,1,0,0]) [1,1,1,1,0,1,0,0] (frm (st3 L M X M.length)) [] [0,1,5,6,7]).run
      = .ok (.exit 0, (st3 L M X M.length).map (·.2), []) := by
  have ht := p3n L M X
  have h1 : decide ((M.length : Int) < ((M.map encC).length : Nat)) = false := by simp
  rw [h1] at ht
  exact congrArg T.run ht
/-- whether a constant can be: the program's answer and the document's. -/
def Rt (c : Cst) : Prop := ∃ b, (∀ h, Con E0 15 [encC c] h (.bool b) h) ∧ ∀ h, Con E0 16 [encC c] h (.bool b) h
theorem call3 (X : List Cst) (c : Cst) (hx : X.length < 100000) (hR : Rt c) : ∃ P r n e, CallOK (X3 X P c r n e).E (X3 X P c r n e).calls ∧ ∃ Z, (if e = 0 then P else X) = X ++ Z ∧ Z.length ≤ 1 := by
  obtain ⟨b, h15, h16⟩ := hR
  obtain ⟨r, hr⟩ : ∃ r, r = resF (from_ X c X.length 0) := ⟨_, rfl⟩
  obtain ⟨P, n, e, ha⟩ : ∃ P n e, addC X c b r = (P, n, e) := ⟨_, _, _, rfl⟩
  have hz : ∃ Z, (if e = 0 then P else X) = X ++ Z ∧ Z.length ≤ 1 := by
    unfold addC at ha
    split at ha
    · cases ha; exact ⟨[], by simp, by simp⟩
    · split at ha
      · cases ha; exact ⟨[], by simp, by simp⟩
      · split at ha
        · cases ha; exact ⟨[], by simp, by simp⟩
        · cases ha; exact ⟨[c], by simp, by simp⟩
  have hP : P.length ≤ X.length + 1 := by
    unfold addC at ha
    split at ha
    · cases ha; simp
    · split at ha
      · cases ha; simp
      · split at ha
        · cases ha; simp
        · cases ha; simp
  refine ⟨P, r, n, e, callsAt_ok rfl fun q hq h => ?_, hz⟩
  have h9 := con9 X c (by omega) b h15 h
  have h10 := con10 X c (by omega) b h16 h
  rw [← hr, ha] at h9 h10
  rcases List.mem_cons.1 hq with rfl | hq
  · rw [hr]; exact con7 X c (by omega) h
  rcases List.mem_cons.1 hq with rfl | hq
  · rw [hr]; exact con8 X c (by omega) h
  rcases List.mem_cons.1 hq with rfl | hq
  · exact h9
  rcases List.mem_cons.1 hq with rfl | hq
  · exact h10
  obtain rfl := List.mem_singleton.1 hq
  have := con11 P P (by omega) h
  rw [sameC_self] at this
  exact this
theorem call3b (h6 : ∀ h, Con E0 6 [] h (.bool true) h) : CallOK X3b.E X3b.calls := callsAt_ok rfl fun q hq h => by
  obtain rfl := List.mem_singleton.1 hq
  exact h6 h
theorem loop3 (L M : List Cst) (h6 : ∀ h, Con E0 6 [] h (.bool true) h) (hm : M.length ≤ 60) (hR : ∀ c, c ∈ M → Rt c) : ∀ (d j : Nat) (X : List Cst), j + d = M.length → X.length ≤ 1000 + j →
    ∃ Z, TRounds E0 98 [] (sub b3 [1,1,1,1,0,1,0,0]) (frm (st3 L M X j)) [] (.exit 0) (frm (st3 L M (X ++ Z) M.length)) []
  | 0, j, X, h, hx => by
    obtain rfl : j = M.length := by omega
    refine ⟨[], ?_⟩
    rw [List.append_nil]
    exact .done (Tri.of_obs (X := X3b) g0 (call3b h6) KOK.none rfl (out3n L M X)) nofun
  | d + 1, j, X, h, hx => by
    have hj : j < M.length := by omega
    have hmem : M.getD j .zero ∈ M := by rw [List.getD_eq_getElem?_getD, List.getElem?_eq_getElem hj]; exact List.getElem_mem hj
    obtain ⟨P, r, n, e, hcall, Z, hz, hz1⟩ := call3 X (M.getD j .zero) (by omega) (hR _ hmem)
    have hrd := round3 L M X P j r n e hj hm
    rw [hz] at hrd
    obtain ⟨Z', ih⟩ := loop3 L M h6 hm hR d (j + 1) (X ++ Z) (by omega) (by rw [List.length_append]; omega)
    refine ⟨Z ++ Z', ?_⟩
    rw [← List.append_assoc]
    exact .more (Tri.of_obs (X := X3 X P (M.getD j .zero) r n e) g0 hcall KOK.none rfl hrd) ih
theorem con3 (L M : List Cst) (h6 : ∀ h, Con E0 6 [] h (.bool true) h) (hR : ∀ c, c ∈ M → Rt c) : Con E0 3 [.lst 5 (L.map encC) .open_, .lst 5 (M.map encC) .open_] [] (.bool true) [] := by
  have hlL : (L.map encC).length = L.length := by simp
  have hlM : (M.map encC).length = M.length := by simp
  by_cases hb : L.length ≤ 300 ∧ M.length ≤ 60
  · obtain ⟨b1, b2⟩ := hb
    obtain ⟨Z, hT⟩ := loop3 L M h6 b2 hR M.length 0 L (by omega) (by omega)
    have hcall : CallOK (X3l L).E (X3l L).calls := callsAt_ok rfl fun q hq h => by
      rcases List.mem_cons.1 hq with rfl | hq
      · exact h6 h
      obtain rfl := List.mem_singleton.1 hq
      have := con11 L L (by omega) h
      rw [sameC_self] at this
      exact this
    have hk : KOK E0 98 [] b3 (kAt [1,1,1,1,0,1] (st3 L M L 0) [] .normal (st3 L M (L ++ Z) M.length) []) := kAt_ok (Tri.block (id := 0) (Tri.loop hT))
    have ht := congrArg T.run (p3l L M (L ++ Z))
    refine Con.of_run (X := X3l L) (f := 3) g0 hcall (fn := Tryd.f3) Tryd.func3 (c := b3) rfl rfl (args := [.lst 5 (L.map encC) .open_, .lst 5 (M.map encC) .open_]) (h := []) hk (ht.trans ?_)
    have c3 : decide (((L.map encC).length : Int) ≤ (((L ++ Z).map encC).length : Nat)) = true := by simp; omega
    have c4 : (decide (0 ≤ (((L.map encC).length : Nat) : Int).toNat) && decide ((((L.map encC).length : Nat) : Int).toNat ≤ ((L ++ Z).map encC).length) && decide ((((L.map encC).length : Nat) : Int).toNat = (((L.map encC).length : Nat) : Int).toNat)) = true := by simp
    have c5 : List.take ((((L.map encC).length : Nat) : Int).toNat - 0) (List.drop 0 ((L ++ Z).map encC)) = L.map encC := by
      rw [Int.toNat_natCast, Nat.sub_zero, List.drop_zero, List.map_append, List.take_left]
    exact bF (by simp; omega) (bF (by simp; omega) (bS (bT c3 (bT rfl (bT c4 (bS (bT rfl (bT rfl rfl)) (by rw [c5])))))))
  · have hcall := call3b h6
    have hk : KOK E0 98 [] b3 (kNo [1,1,1,1,0,1]) := kNo_ok
    have ht := congrArg T.run (p3b L M)
    refine Con.of_run (X := X3b) (f := 3) g0 hcall (fn := Tryd.f3) Tryd.func3 (c := b3) rfl rfl (args := [.lst 5 (L.map encC) .open_, .lst 5 (M.map encC) .open_]) (h := []) hk (ht.trans ?_)
    by_cases b1 : L.length ≤ 300
    · exact bF (by simp; omega) (bT (by simp; omega) (bT rfl rfl))
    · exact bT (by simp; omega) (bT rfl (bT rfl rfl))

/-! ## which constants can be -/
theorem rt_of (c : Cst) (hs : c.s.size ≤ 140737488351232) (ht : c.t.size ≤ 140737488351232) (hu : c.u.size ≤ 140737488351232) : Rt c := by
  obtain ⟨k, n, s, t, u⟩ := c
  obtain ⟨s, rfl⟩ := PL.ex_mk s
  obtain ⟨t, rfl⟩ := PL.ex_mk t
  obtain ⟨u, rfl⟩ := PL.ex_mk u
  simp only [PL.size_mk] at hs ht hu
  obtain ⟨b, ⟨k1, h1⟩, ⟨k2, h2⟩⟩ := PL.right_both k n s t u (by omega) (by omega) (by omega)
  have hp : Pins [.agg #[.int .i64 k, .int .i64 n, .string (PL.mk s), .string (PL.mk t), .string (PL.mk u)]] [encC ⟨k, n, PL.mk s, PL.mk t, PL.mk u⟩] :=
    .cons (Pin.agg (.cons (Pin.int _ _) (.cons (Pin.int _ _) (.cons (Pin.str _) (.cons (Pin.str _) (.cons (Pin.str _) .nil)))))) .nil
  refine ⟨b, fun h => Con.of_calls hp (v := .bool b) (fun _ _ _ => .bool _) (enters_of Tryd.func15 (by kernel_rfl) rfl _) (fun w => Q.pool_Right.calls k1 k n _ _ _ b w (h1 k1 (Nat.le_refl _))) h,
    fun h => Con.of_calls hp (v := .bool b) (fun _ _ _ => .bool _) (enters_of Tryd.func16 (by kernel_rfl) rfl _) (fun w => Q.hornbookref03_Right.calls k2 k n _ _ _ b w (h2 k2 (Nat.le_refl _))) h⟩
/-! ## the fixed calls, and the row -/
noncomputable def EK : Env := { E0 with C := C0, M := 10000 }
theorem known : val (acall EK 500 6 [] []) = .ok (.bool true) := by kernel_rfl
theorem gK : Ground EK := ⟨fun t h => by simpa [EK, E0] using h, cok0 rfl rfl, bok_none (fun _ => rfl), by kernel_rfl⟩
theorem known6 (h : H) : Con E0 6 [] h (.bool true) h := by
  obtain ⟨h', hh⟩ := val_ok known
  exact Con.base noG0 (Con.env (E := EK) (E' := E0) rfl rfl (Con.of_acall gK hh)) rfl rfl h
abbrev tyC : Ty := .pair (.int .i64) (.pair (.int .i64) (.pair .str (.pair .str .str)))
theorem ty22 : Ty.of Tryd.prog 9 22 = some (.slice tyC) := by kernel_rfl
theorem okT22 : okT Tryd.prog 9 22 = true := by kernel_rfl
def toC (x : tyC.I) : Cst := match x with
  | (k, n, s, t, u) => ⟨k, n, s, t, u⟩
theorem enc_rows (xs : List tyC.I) : List.map encC (List.map toC xs) = List.map (fun x : tyC.I => tyC.wrap (tyC.row x)) xs := by
  rw [List.map_map]; exact List.map_congr_left fun x _ => rfl
set_option maxRecDepth 100000 in
theorem open22 {H : Type} {enc : TypeId × Value → H} {b : Nat} {d : DataW H} {ps : List MemPlace} {W : World} {v : Value} (hv : Value.okWide Tryd.prog W .any b 22 v) (h : DataW.Trod enc Tryd.prog W 0 (fun _ => true) true 22 v d ps) (hw : ∀ n ∈ d.weights Tryd.prog 22, n ≤ reachBytes) :
    ∃ L : List Cst, CR F0 rho0 W v (.lst 5 (L.map encC) .open_) ∧ ∀ c, c ∈ L → Rt c := by
  obtain ⟨a, len, cap, rfl⟩ := okWide_slice Tryd.underlying22 hv
  obtain ⟨fuel, hf⟩ := h
  obtain ⟨l, hc, hs, hl⟩ := open_ok (F := F0) (ρ := rho0) (w := W) (fun B off hF => by
    rcases hF with ⟨b, k, y, h1, _⟩ | h1
    · cases h1
    · exact h1) 9 22 okT22 fuel _ _ hf hw
  obtain ⟨xs, hx, hk⟩ := (shp_ty (P := Tryd.prog) 9).1 22 _ ty22 9 l hs
  subst hx
  obtain ⟨ys, hys⟩ : ∃ ys : List tyC.I, ys = xs := ⟨xs, rfl⟩
  subst hys
  refine ⟨List.map toC ys, ?_, fun c hc => ?_⟩
  · have := hc.head
    rw [enc_rows]
    exact this
  · obtain ⟨x, hx, rfl⟩ := List.mem_map.1 hc
    have := hk.2 x hx
    exact rt_of _ this.2.2.1 this.2.2.2.1 this.2.2.2.2
set_option maxRecDepth 100000 in
theorem poolAdds {H : Type} {enc : TypeId × Value → H} {b : Nat} {d d' : DataW H} {ps ps' : List MemPlace} (W : World) (hX : laidMetH Tryd.prog Rows.poolAddsRow.laid W)
    (v : Value) (hv : Value.okWide Tryd.prog W .any b 22 v) (h : DataW.Trod enc Tryd.prog W 0 (fun _ => true) true 22 v d ps) (hw : ∀ n ∈ d.weights Tryd.prog 22, n ≤ reachBytes)
    (v' : Value) (hv' : Value.okWide Tryd.prog W .any b 22 v') (h' : DataW.Trod enc Tryd.prog W 0 (fun _ => true) true 22 v' d' ps') (hw' : ∀ n ∈ d'.weights Tryd.prog 22, n ≤ reachBytes) :
    Calls Tryd.prog 3 #[v, v'] W fun e w' => e = .returned (.bool true) ∧ Below W.heap.size W w' := by
  obtain ⟨L, hL, _⟩ := open22 hv h hw
  obtain ⟨M, hM, hR⟩ := open22 hv' h' hw'
  exact Con.bool (E := E0) (con3 L M known6 hR) (vs := #[v, v']) (.cons hL (.cons hM .nil)) (fun i cs h => by simp [E0] at h)
end Go.Proofs.YtdmeoefmebimnaaDoor.AM
