/- DeltaNil: without a table nothing is held, whatever classes. -/
import Derived.Test.YtcocmlmligjjcaaGreatDoorBDeltaA
import Derived.Test.YtcocmlmligjjcaaGreatDoorRows
import Derived.LaidSub
import Derived.WideShapes
namespace Go.Proofs.YtcocmlmligjjcaaGreatDoor.AM
open Go Go.Proofs Go.RowKit Go.WideShapes
set_option linter.unusedVariables false
set_option linter.unusedSimpArgs false
def isT (v : AV) : Bool := match v with | .bool b => b | _ => false
noncomputable def mapB (t : T (AV × H)) : T Bool := @T.rec (AV × H) (fun _ => T Bool) (fun p => .leaf (isT p.1)) .fail (fun c _ _ t e => .br c t e) t
theorem mapB_ok {t : T (AV × H)} (h : (mapB t).run = .ok true) : ∃ h', t.run = .ok (.bool true, h') := by
  induction t with
  | leaf p =>
    obtain ⟨v, h1⟩ := p
    have h2 : R.ok (isT v) = R.ok true := h
    cases v with
    | bool b => cases b with
      | true => exact ⟨h1, rfl⟩
      | false => cases h2
    | _ => cases h2
  | fail => cases h
  | br c t e iht ihe =>
    cases c with
    | true => exact iht h
    | false => exact ihe h
theorem q6 (l : List tyK.I) (b : Bool) : mapB (runF (X6 l b) (fun _ => none) Tryz.f6 (bodyOf Tryz.f6) [encL tyK l] []) = mapB (runF (X6q b (ask ([encL tyK l] = [encL tyK l]))) (fun _ => none) Tryz.f6 (bodyOf Tryz.f6) [encL tyK l] []) := by kernel_rfl
def okB : R Bool → Bool
  | .ok true => true
  | _ => false
theorem okB_ok {x : R Bool} (h : okB x = true) : x = .ok true := by
  cases x with
  | ok b => cases b with
    | true => rfl
    | false => cases h
  | no s => cases h
theorem q6t (l : List tyK.I) : okB (mapB (runF (X6q true true) (fun _ => none) Tryz.f6 (bodyOf Tryz.f6) [encL tyK l] [])).run = true := by kernel_rfl
theorem q6f (l : List tyK.I) : okB (mapB (runF (X6q false true) (fun _ => none) Tryz.f6 (bodyOf Tryz.f6) [encL tyK l] [])).run = true := by kernel_rfl
theorem con6 (l : List tyK.I) (hl : l.length < 1000000000000000) (ho : ∀ x, x ∈ l → tyK.okay x) : ∃ h', Con EK 6 [encL tyK l] [] (.bool true) h' := by
  obtain ⟨b, hb⟩ := con37 l hl ho
  obtain ⟨h', hr⟩ : ∃ h', (runF (X6 l b) (fun _ => none) Tryz.f6 (bodyOf Tryz.f6) [encL tyK l] []).run = .ok (.bool true, h') := by
    refine mapB_ok ?_
    rw [q6, ask_true rfl]
    cases b with
    | true => exact okB_ok (q6t l)
    | false => exact okB_ok (q6f l)
  exact ⟨h', Con.of_run (X := X6 l b) (f := 6) gK (call6_ok hb) (fn := Tryz.f6) Tryz.func6 (c := bodyOf Tryz.f6) rfl rfl KOK.none hr⟩
theorem ty76 : Ty.of Tryz.prog 40 76 = some (.slice tyK) := by kernel_rfl
theorem okT76 : okT Tryz.prog 9 76 = true := by kernel_rfl
set_option maxRecDepth 100000 in
theorem open76 {H : Type} {enc : TypeId × Value → H} {b : Nat} {d : DataW H} {ps : List MemPlace} {W : World} {v : Value} (hv : Value.okWide Tryz.prog W .any b 76 v) (h : DataW.Trod enc Tryz.prog W 0 (fun _ => true) true 76 v d ps) (hw : ∀ n ∈ d.weights Tryz.prog 76, n ≤ reachBytes) :
    ∃ L : List tyK.I, CR F0 rho0 W v (encL tyK L) ∧ L.length ≤ 140737488351232 ∧ ∀ x, x ∈ L → tyK.okay x := by
  obtain ⟨a, len, cap, rfl⟩ := okWide_slice Tryz.underlying76 hv
  obtain ⟨fuel, hf⟩ := h
  obtain ⟨l, hc, hs, hl⟩ := open_ok (F := F0) (ρ := rho0) (w := W) (fun B off hF => by
    rcases hF with ⟨b, k, y, h1, _⟩ | h1
    · cases h1
    · exact h1) 9 76 okT76 fuel _ _ hf hw
  obtain ⟨xs, hx, hk⟩ := (shp_ty (P := Tryz.prog) 40).1 76 _ ty76 9 l hs
  subst hx
  exact ⟨xs, hc.head, hk.1, hk.2⟩
set_option maxRecDepth 100000 in
theorem deltaNil {H : Type} {enc : TypeId × Value → H} {b : Nat} {d : DataW H} {ps : List MemPlace} (W : World) (hX : laidMetH Tryz.prog Rows.deltaNilRow.laid W)
    (v : Value) (hv : Value.okWide Tryz.prog W .any b 76 v) (h : DataW.Trod enc Tryz.prog W 0 (fun _ => true) true 76 v d ps) (hw : ∀ n ∈ d.weights Tryz.prog 76, n ≤ reachBytes) :
    Calls Tryz.prog 6 #[v] W fun e w' => e = .returned (.bool true) ∧ Below W.heap.size W w' := by
  obtain ⟨L, hL, hlen, hok⟩ := open76 hv h hw
  obtain ⟨m, hc⟩ := con6 L (Nat.lt_of_le_of_lt hlen (by decide)) hok
  refine Con.bool (E := EK) hc (vs := #[v]) (.cons hL .nil) ?_
  intro i cs h
  simp only [EK] at h
  split at h
  · rename_i hi
    subst hi
    cases h
    exact globH_of (P := Tryz.prog) (laid := Rows.deltaNilRow.laid) hX (by kernel_rfl) (List.mem_of_getElem? (i := 1) (a := ("hornbook/ins.forms", Rows.laid_hornbook_ins_forms)) rfl) formsG formsT formsTree
  · cases h
end Go.Proofs.YtcocmlmligjjcaaGreatDoor.AM
