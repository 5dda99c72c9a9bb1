/- PackSame: the program's and the document's comparison of two bundles are one and the same, and true of a bundle and itself; each function by the symbolic machine's tree of it, loops by induction. -/
import Derived.Test.YtaooangghieljaaGreatDoorB0
import Derived.Test.YtaooangghieljaaGreatDoorBPack
import Derived.Test.YtaooangghieljaaGreatDoorRows
import Derived.LaidSub
import Derived.WideShapes
namespace Go.Proofs.YtaooangghieljaaGreatDoor.AM
open Go Go.Proofs Go.RowKit Go.WideShapes
set_option linter.unusedVariables false
set_option linter.unusedSimpArgs false
noncomputable def g5 (args : List AV) : Bool := someB E0 5 args
noncomputable def cl5 : Cl := ⟨5, okE1 tyB, fun args => .bool (g5 args)⟩
noncomputable def cs3 : List Cl := [clK 6, clEE 7 tyB, clEE 8 tyB]
noncomputable def E1 : Env := { E0 with C := lightC cs3, LC := fun f => [6,7,8].contains f }
noncomputable def X3 : SX := { E := E1, f := 3, con := fun _ => false, split := fun d => [8,12,21,26].contains d, call := callsBy (cl5 :: cs3), lit := fun f => [6,7,8].contains f }
theorem p3 (a0 : List tyK.I) (a1 : List tyT.I) (b0 : List tyK.I) (b1 : List tyT.I) : runV X3 (fun _ => none) Tryz.f3 (bodyOf Tryz.f3) [.agg [encL tyK a0, encL tyT a1], .agg [encL tyK b0, encL tyT b1]] =
  (T.br (askQ cl5.2
  [AV.agg [AV.lst (5 : Nat) (List.map tyK.elem a0) Tl.open_, AV.lst (3 : Nat) (List.map tyT.elem a1) Tl.open_]])
    (T.br (!g5
    [AV.agg [AV.lst (5 : Nat) (List.map tyK.elem a0) Tl.open_, AV.lst (3 : Nat) (List.map tyT.elem a1) Tl.open_]])
      (T.br true
        (T.br (askQ (clK (6 : FuncId)).2 [])
          (T.br (askL E1 (6 : Nat) [] (AV.bool true))
            (T.leaf (AV.bool true))
            T.fail)
          T.fail)
        (T.br (askQ (clEE (7 : FuncId) tyB).2
  [AV.agg [AV.lst (5 : Nat) (List.map tyK.elem a0) Tl.open_, AV.lst (3 : Nat) (List.map tyT.elem a1) Tl.open_],
    AV.agg [AV.lst (5 : Nat) (List.map tyK.elem b0) Tl.open_, AV.lst (3 : Nat) (List.map tyT.elem b1) Tl.open_]])
          (T.br (askL E1 (7 : Nat)
  [AV.agg [AV.lst (5 : Nat) (List.map tyK.elem a0) Tl.open_, AV.lst (3 : Nat) (List.map tyT.elem a1) Tl.open_],
    AV.agg [AV.lst (5 : Nat) (List.map tyK.elem b0) Tl.open_, AV.lst (3 : Nat) (List.map tyT.elem b1) Tl.open_]]
  (AV.bool
    (ask
      (AV.agg [AV.lst (5 : Nat) (List.map tyK.elem a0) Tl.open_, AV.lst (3 : Nat) (List.map tyT.elem a1) Tl.open_] =
        AV.agg [AV.lst (5 : Nat) (List.map tyK.elem b0) Tl.open_, AV.lst (3 : Nat) (List.map tyT.elem b1) Tl.open_]))))
            (T.br (askQ (clEE (8 : FuncId) tyB).2
  [AV.agg [AV.lst (5 : Nat) (List.map tyK.elem a0) Tl.open_, AV.lst (3 : Nat) (List.map tyT.elem a1) Tl.open_],
    AV.agg [AV.lst (5 : Nat) (List.map tyK.elem b0) Tl.open_, AV.lst (3 : Nat) (List.map tyT.elem b1) Tl.open_]])
              (T.br (askL E1 (8 : Nat)
  [AV.agg [AV.lst (5 : Nat) (List.map tyK.elem a0) Tl.open_, AV.lst (3 : Nat) (List.map tyT.elem a1) Tl.open_],
    AV.agg [AV.lst (5 : Nat) (List.map tyK.elem b0) Tl.open_, AV.lst (3 : Nat) (List.map tyT.elem b1) Tl.open_]]
  (AV.bool
    (ask
      (AV.agg [AV.lst (5 : Nat) (List.map tyK.elem a0) Tl.open_, AV.lst (3 : Nat) (List.map tyT.elem a1) Tl.open_] =
        AV.agg [AV.lst (5 : Nat) (List.map tyK.elem b0) Tl.open_, AV.lst (3 : Nat) (List.map tyT.elem b1) Tl.open_]))))
                (T.br (ask
    (AV.agg [AV.lst (5 : Nat) (List.map tyK.elem a0) Tl.open_, AV.lst (3 : Nat) (List.map tyT.elem a1) Tl.open_] =
      AV.agg [AV.lst (5 : Nat) (List.map tyK.elem b0) Tl.open_, AV.lst (3 : Nat) (List.map tyT.elem b1) Tl.open_]) ==
  ask
    (AV.agg [AV.lst (5 : Nat) (List.map tyK.elem a0) Tl.open_, AV.lst (3 : Nat) (List.map tyT.elem a1) Tl.open_] =
      AV.agg [AV.lst (5 : Nat) (List.map tyK.elem b0) Tl.open_, AV.lst (3 : Nat) (List.map tyT.elem b1) Tl.open_]))
                  (T.br (askQ (clEE (7 : FuncId) tyB).2
  [AV.agg [AV.lst (5 : Nat) (List.map tyK.elem a0) Tl.open_, AV.lst (3 : Nat) (List.map tyT.elem a1) Tl.open_],
    AV.agg [AV.lst (5 : Nat) (List.map tyK.elem a0) Tl.open_, AV.lst (3 : Nat) (List.map tyT.elem a1) Tl.open_]])
                    (T.br (askL E1 (7 : Nat)
  [AV.agg [AV.lst (5 : Nat) (List.map tyK.elem a0) Tl.open_, AV.lst (3 : Nat) (List.map tyT.elem a1) Tl.open_],
    AV.agg [AV.lst (5 : Nat) (List.map tyK.elem a0) Tl.open_, AV.lst (3 : Nat) (List.map tyT.elem a1) Tl.open_]]
  (AV.bool
    (ask
      (AV.agg [AV.lst (5 : Nat) (List.map tyK.elem a0) Tl.open_, AV.lst (3 : Nat) (List.map tyT.elem a1) Tl.open_] =
        AV.agg [AV.lst (5 : Nat) (List.map tyK.elem a0) Tl.open_, AV.lst (3 : Nat) (List.map tyT.elem a1) Tl.open_]))))
                      (T.br (ask
  (AV.agg [AV.lst (5 : Nat) (List.map tyK.elem a0) Tl.open_, AV.lst (3 : Nat) (List.map tyT.elem a1) Tl.open_] =
    AV.agg [AV.lst (5 : Nat) (List.map tyK.elem a0) Tl.open_, AV.lst (3 : Nat) (List.map tyT.elem a1) Tl.open_]))
                        (T.br (askQ (clK (6 : FuncId)).2 [])
                          (T.br (askL E1 (6 : Nat) [] (AV.bool true))
                            (T.leaf (AV.bool true))
                            T.fail)
                          T.fail)
                        (T.leaf (AV.bool false)))
                      T.fail)
                    T.fail)
                  (T.br false
                    (T.br (askQ (clK (6 : FuncId)).2 [])
                      (T.br (askL E1 (6 : Nat) [] (AV.bool true))
                        (T.leaf (AV.bool true))
                        T.fail)
                      T.fail)
                    (T.leaf (AV.bool false))))
                T.fail)
              T.fail)
            T.fail)
          T.fail))
      (T.br (askQ cl5.2
  [AV.agg [AV.lst (5 : Nat) (List.map tyK.elem b0) Tl.open_, AV.lst (3 : Nat) (List.map tyT.elem b1) Tl.open_]])
        (T.br (!g5
    [AV.agg [AV.lst (5 : Nat) (List.map tyK.elem b0) Tl.open_, AV.lst (3 : Nat) (List.map tyT.elem b1) Tl.open_]])
          (T.br (askQ (clK (6 : FuncId)).2 [])
            (T.br (askL E1 (6 : Nat) [] (AV.bool true))
              (T.leaf (AV.bool true))
              T.fail)
            T.fail)
          (T.br (askQ (clEE (7 : FuncId) tyB).2
  [AV.agg [AV.lst (5 : Nat) (List.map tyK.elem a0) Tl.open_, AV.lst (3 : Nat) (List.map tyT.elem a1) Tl.open_],
    AV.agg [AV.lst (5 : Nat) (List.map tyK.elem b0) Tl.open_, AV.lst (3 : Nat) (List.map tyT.elem b1) Tl.open_]])
            (T.br (askL E1 (7 : Nat)
  [AV.agg [AV.lst (5 : Nat) (List.map tyK.elem a0) Tl.open_, AV.lst (3 : Nat) (List.map tyT.elem a1) Tl.open_],
    AV.agg [AV.lst (5 : Nat) (List.map tyK.elem b0) Tl.open_, AV.lst (3 : Nat) (List.map tyT.elem b1) Tl.open_]]
  (AV.bool
    (ask
      (AV.agg [AV.lst (5 : Nat) (List.map tyK.elem a0) Tl.open_, AV.lst (3 : Nat) (List.map tyT.elem a1) Tl.open_] =
        AV.agg [AV.lst (5 : Nat) (List.map tyK.elem b0) Tl.open_, AV.lst (3 : Nat) (List.map tyT.elem b1) Tl.open_]))))
              (T.br (askQ (clEE (8 : FuncId) tyB).2
  [AV.agg [AV.lst (5 : Nat) (List.map tyK.elem a0) Tl.open_, AV.lst (3 : Nat) (List.map tyT.elem a1) Tl.open_],
    AV.agg [AV.lst (5 : Nat) (List.map tyK.elem b0) Tl.open_, AV.lst (3 : Nat) (List.map tyT.elem b1) Tl.open_]])
                (T.br (askL E1 (8 : Nat)
  [AV.agg [AV.lst (5 : Nat) (List.map tyK.elem a0) Tl.open_, AV.lst (3 : Nat) (List.map tyT.elem a1) Tl.open_],
    AV.agg [AV.lst (5 : Nat) (List.map tyK.elem b0) Tl.open_, AV.lst (3 : Nat) (List.map tyT.elem b1) Tl.open_]]
  (AV.bool
    (ask
      (AV.agg [AV.lst (5 : Nat) (List.map tyK.elem a0) Tl.open_, AV.lst (3 : Nat) (List.map tyT.elem a1) Tl.open_] =
        AV.agg [AV.lst (5 : Nat) (List.map tyK.elem b0) Tl.open_, AV.lst (3 : Nat) (List.map tyT.elem b1) Tl.open_]))))
                  (T.br (ask
    (AV.agg [AV.lst (5 : Nat) (List.map tyK.elem a0) Tl.open_, AV.lst (3 : Nat) (List.map tyT.elem a1) Tl.open_] =
      AV.agg [AV.lst (5 : Nat) (List.map tyK.elem b0) Tl.open_, AV.lst (3 : Nat) (List.map tyT.elem b1) Tl.open_]) ==
  ask
    (AV.agg [AV.lst (5 : Nat) (List.map tyK.elem a0) Tl.open_, AV.lst (3 : Nat) (List.map tyT.elem a1) Tl.open_] =
      AV.agg [AV.lst (5 : Nat) (List.map tyK.elem b0) Tl.open_, AV.lst (3 : Nat) (List.map tyT.elem b1) Tl.open_]))
                    (T.br (askQ (clEE (7 : FuncId) tyB).2
  [AV.agg [AV.lst (5 : Nat) (List.map tyK.elem a0) Tl.open_, AV.lst (3 : Nat) (List.map tyT.elem a1) Tl.open_],
    AV.agg [AV.lst (5 : Nat) (List.map tyK.elem a0) Tl.open_, AV.lst (3 : Nat) (List.map tyT.elem a1) Tl.open_]])
                      (T.br (askL E1 (7 : Nat)
  [AV.agg [AV.lst (5 : Nat) (List.map tyK.elem a0) Tl.open_, AV.lst (3 : Nat) (List.map tyT.elem a1) Tl.open_],
    AV.agg [AV.lst (5 : Nat) (List.map tyK.elem a0) Tl.open_, AV.lst (3 : Nat) (List.map tyT.elem a1) Tl.open_]]
  (AV.bool
    (ask
      (AV.agg [AV.lst (5 : Nat) (List.map tyK.elem a0) Tl.open_, AV.lst (3 : Nat) (List.map tyT.elem a1) Tl.open_] =
        AV.agg [AV.lst (5 : Nat) (List.map tyK.elem a0) Tl.open_, AV.lst (3 : Nat) (List.map tyT.elem a1) Tl.open_]))))
                        (T.br (ask
  (AV.agg [AV.lst (5 : Nat) (List.map tyK.elem a0) Tl.open_, AV.lst (3 : Nat) (List.map tyT.elem a1) Tl.open_] =
    AV.agg [AV.lst (5 : Nat) (List.map tyK.elem a0) Tl.open_, AV.lst (3 : Nat) (List.map tyT.elem a1) Tl.open_]))
                          (T.br (askQ (clK (6 : FuncId)).2 [])
                            (T.br (askL E1 (6 : Nat) [] (AV.bool true))
                              (T.leaf (AV.bool true))
                              T.fail)
                            T.fail)
                          (T.leaf (AV.bool false)))
                        T.fail)
                      T.fail)
                    (T.br false
                      (T.br (askQ (clK (6 : FuncId)).2 [])
                        (T.br (askL E1 (6 : Nat) [] (AV.bool true))
                          (T.leaf (AV.bool true))
                          T.fail)
                        T.fail)
                      (T.leaf (AV.bool false))))
                  T.fail)
                T.fail)
              T.fail)
            T.fail))
        T.fail))
    T.fail) := by kernel_rfl
theorem cs3_ok (h6 : ∀ h, Con E0 6 [] h (.bool true) h) : ∀ c, c ∈ cs3 → ∀ args, c.ok args → ∀ h, Con E0 c.f args h (c.res args) h := fun c hc => by
  rcases List.mem_cons.1 hc with rfl | hc
  · exact clK_con h6
  rcases List.mem_cons.1 hc with rfl | hc
  · exact clEE_con con7
  · obtain rfl := List.mem_singleton.1 hc
    exact clEE_con con8
theorem cs3_noF : ∀ c, c ∈ cs3 → ∀ args, noF (c.res args) = true := fun c hc args => by
  rcases List.mem_cons.1 hc with rfl | hc
  · rfl
  rcases List.mem_cons.1 hc with rfl | hc
  · rfl
  · obtain rfl := List.mem_singleton.1 hc
    rfl
theorem g1 (h6 : ∀ h, Con E0 6 [] h (.bool true) h) : Ground E1 := ⟨fun t h => by simpa [E1, E0] using h, lightC_ok rfl (fun c hc args ha h => Con.env (E := E0) (E' := E1) rfl rfl (cs3_ok h6 c hc args ha h)) cs3_noF, bok_none (fun _ => rfl), by kernel_rfl⟩
theorem calls3 (h6 : ∀ h, Con E0 6 [] h (.bool true) h) : CallOK X3.E X3.calls := callsBy_ok rfl fun c hc args ha h => by
  refine Con.env (E := E0) (E' := E1) rfl rfl ?_
  rcases List.mem_cons.1 hc with rfl | hc
  · exact someB_con (by obtain ⟨x, rfl, hx⟩ := ha; exact con5 x hx) h
  · exact cs3_ok h6 c hc args ha h
theorem con3 (x y : tyB.I) (hx : tyB.okay x) (hy : tyB.okay y) (h6 : ∀ h, Con E0 6 [] h (.bool true) h) : ∃ h', Con E0 3 [tyB.elem x, tyB.elem y] [] (.bool true) h' := by
  obtain ⟨a0, a1⟩ := x
  obtain ⟨b0, b1⟩ := y
  have oa : okE1 tyB [tyB.elem (a0, a1)] := ⟨_, rfl, hx⟩
  have ob : okE1 tyB [tyB.elem (b0, b1)] := ⟨_, rfl, hy⟩
  have oab : okEE tyB [tyB.elem (a0, a1), tyB.elem (b0, b1)] := ⟨_, _, rfl, hx⟩
  have oaa : okEE tyB [tyB.elem (a0, a1), tyB.elem (a0, a1)] := ⟨_, _, rfl, hx⟩
  have hr : (runV X3 (fun _ => none) Tryz.f3 (bodyOf Tryz.f3) [tyB.elem (a0, a1), tyB.elem (b0, b1)]).run = .ok (.bool true) := by
    refine (congrArg T.run (p3 a0 a1 b0 b1)).trans ?_
    refine bA ?_ oa
    cases ga : g5 [tyB.elem (a0, a1)] with
    | false => exact bT (congrArg not ga) (bT rfl (bA (bL (cs := cs3) (c := clK 6) rfl rfl rfl rfl rfl rfl) rfl))
    | true =>
      refine bF (congrArg not ga) (bA ?_ ob)
      cases gb : g5 [tyB.elem (b0, b1)] with
      | false => exact bT (congrArg not gb) (bA (bL (cs := cs3) (c := clK 6) rfl rfl rfl rfl rfl rfl) rfl)
      | true => exact bF (congrArg not gb) (bA (bL (cs := cs3) (c := clEE 7 tyB) rfl rfl oab rfl rfl (bA (bL (cs := cs3) (c := clEE 8 tyB) rfl rfl oab rfl rfl (bT (beq_self_eq_true _) (bA (bL (cs := cs3) (c := clEE 7 tyB) rfl rfl oaa rfl rfl
          (bT (ask_true rfl) (bA (bL (cs := cs3) (c := clK 6) rfl rfl rfl rfl rfl rfl) rfl))) oaa))) oab)) oab)
  obtain ⟨⟨v, h'⟩, h2, h3⟩ := T.bind_ok hr
  cases h3
  exact ⟨h', Con.env (E := E1) (E' := E0) rfl rfl (Con.of_run (X := X3) (f := 3) (g1 h6) (calls3 h6) (fn := Tryz.f3) Tryz.func3 (c := bodyOf Tryz.f3) rfl rfl (args := [tyB.elem (a0, a1), tyB.elem (b0, b1)]) (h := []) KOK.none h2)⟩

/-! ## the fixed calls, and the row -/
noncomputable def EK : Env := { E0 with C := C0, M := 10000, L := fun f s => (f == 15 && s == 17) || (f == 39 && s == 11) || (f == 6 && s == 11) }
theorem known : val (acall EK 500 6 [] []) = .ok (.bool true) := by kernel_rfl
theorem gK : Ground EK := ⟨fun t h => by simpa [EK, E0] using h, cok0 rfl rfl, bok_none (fun _ => rfl), by kernel_rfl⟩
theorem known6 (h : H) : Con E0 6 [] h (.bool true) h := by
  obtain ⟨h', hh⟩ := val_ok known
  exact Con.base noG0 (Con.env (E := EK) (E' := E0) rfl rfl (Con.of_acall gK hh)) rfl rfl h
theorem ty25 : Ty.of Tryz.prog 40 25 = some tyB := by kernel_rfl
theorem okT25 : okT Tryz.prog 9 25 = true := by kernel_rfl
set_option maxRecDepth 100000 in
theorem open25 {H : Type} {enc : TypeId × Value → H} {b : Nat} {d : DataW H} {ps : List MemPlace} {W : World} {v : Value} (hv : Value.okWide Tryz.prog W .any b 25 v) (h : DataW.Trod enc Tryz.prog W 0 (fun _ => true) true 25 v d ps) (hw : ∀ n ∈ d.weights Tryz.prog 25, n ≤ reachBytes) :
    ∃ x : tyB.I, CR F0 rho0 W v (tyB.elem x) ∧ tyB.okay x := by
  obtain ⟨cs, rfl, _⟩ := okWide_struct Tryz.underlying25 hv
  obtain ⟨fuel, hf⟩ := h
  obtain ⟨l, hc, hs, hl⟩ := open_ok (F := F0) (ρ := rho0) (w := W) (fun B off hF => by
    rcases hF with ⟨b, k, y, h1, _⟩ | h1
    · cases h1
    · exact h1) 9 25 okT25 fuel _ _ hf hw
  obtain ⟨x, hx, hk⟩ := (shp_ty (P := Tryz.prog) 40).1 25 _ ty25 9 l hs
  subst hx
  obtain ⟨a0, a1⟩ := x
  exact ⟨_, .agg_of hc, hk⟩
set_option maxRecDepth 100000 in
theorem packSame {H : Type} {enc : TypeId × Value → H} {b : Nat} {d d' : DataW H} {ps ps' : List MemPlace} (W : World) (hX : laidMetH Tryz.prog Rows.packSameRow.laid W)
    (v : Value) (hv : Value.okWide Tryz.prog W .any b 25 v) (h : DataW.Trod enc Tryz.prog W 0 (fun _ => true) true 25 v d ps) (hw : ∀ n ∈ d.weights Tryz.prog 25, n ≤ reachBytes)
    (v' : Value) (hv' : Value.okWide Tryz.prog W .any b 25 v') (h' : DataW.Trod enc Tryz.prog W 0 (fun _ => true) true 25 v' d' ps') (hw' : ∀ n ∈ d'.weights Tryz.prog 25, n ≤ reachBytes) :
    Calls Tryz.prog 3 #[v, v'] W fun e w' => e = .returned (.bool true) ∧ Below W.heap.size W w' := by
  obtain ⟨x, hx, ox⟩ := open25 hv h hw
  obtain ⟨y, hy, oy⟩ := open25 hv' h' hw'
  obtain ⟨m, hc⟩ := con3 x y ox oy known6
  exact Con.bool (E := E0) hc (vs := #[v, v']) (.cons hx (.cons hy .nil)) (fun i cs h => by simp [E0] at h)
end Go.Proofs.YtaooangghieljaaGreatDoor.AM
