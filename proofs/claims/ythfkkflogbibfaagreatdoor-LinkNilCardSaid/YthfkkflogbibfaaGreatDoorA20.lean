/- The abstract machine: a call from no memory of the machine's own. -/
import Derived.Test.YthfkkflogbibfaaGreatDoorA19
import Derived.Below
namespace Go.Proofs.YthfkkflogbibfaaGreatDoor.AM
set_option linter.unusedSimpArgs false
set_option linter.unusedSectionVars false
set_option linter.unusedVariables false

def rho0 : Rho := fun _ => none
def area0 : Area := fun _ _ => False
/-- nothing is forbidden. -/
abbrev F0 : Area := Forb area0 rho0 (view [])

theorem hr0 {G : Nat → Option (List AV)} {w : World} (hg : ∀ i cs, G i = some cs → CR F0 rho0 w (.pointer (some ⟨i, 0, none⟩)) (.fp cs 0)) : HR G area0 rho0 w (view []) :=
  ⟨fun b h => rfl, (fun b blk h => by simp [view] at h), (fun b h => by simp [view] at h), (fun b b' B k k' x x' h => by cases h), (fun B off h => False.elim h), hg⟩

theorem below_of {ρ' : Rho} {h' : H} {w w' : World} (h : Ext (Own rho0 (view [])) rho0 w (Own ρ' (view h')) ρ' w') : RowKit.Below w.heap.size w w' :=
  ⟨h.st.1, h.st.2.1, h.st.2.2, h.size, fun k hk => h.keepo k hk (fun off => by rintro ⟨b, k, y, hb, _⟩; cases hb)⟩

theorem calls_of {E : Env} (hS : Smet E.P E.S) (hC : COK E) (hB : BOK E) (hmix : E.P.follows .mixedOrders = true) {n : Nat} {f : FuncId} {args : List AV} {r : AV} {h' : H} (hc : acall E n f args [] = .ok (r, h')) {w : World} {vs : Array Value}
    (hargs : CRs F0 rho0 w vs.toList args) (hg : ∀ i cs, E.G i = some cs → CR F0 rho0 w (.pointer (some ⟨i, 0, none⟩)) (.fp cs 0)) :
    Calls E.P f vs w fun e w' => ∃ v ρ', e = .returned v ∧ RowKit.Below w.heap.size w w' ∧ CR (Forb area0 ρ' (view h')) ρ' w' v r :=
  (acall_ok hS hC hB hmix n f args [] r h' hc area0 rho0 w vs (hr0 hg) hargs).2.mono fun e w' ⟨v, ρ', h1, h2, h3, h4⟩ => ⟨v, ρ', h1, below_of h2, h4⟩

theorem calls_bool {E : Env} (hS : Smet E.P E.S) (hC : COK E) (hB : BOK E) (hmix : E.P.follows .mixedOrders = true) {n : Nat} {f : FuncId} {args : List AV} {b : Bool} {h' : H} (hc : acall E n f args [] = .ok (.bool b, h')) {w : World} {vs : Array Value}
    (hargs : CRs F0 rho0 w vs.toList args) (hg : ∀ i cs, E.G i = some cs → CR F0 rho0 w (.pointer (some ⟨i, 0, none⟩)) (.fp cs 0)) :
    Calls E.P f vs w fun e w' => e = .returned (.bool b) ∧ RowKit.Below w.heap.size w w' :=
  (calls_of hS hC hB hmix hc hargs hg).mono fun e w' ⟨v, ρ', h1, h2, h3⟩ => ⟨by rw [h1, toV_eq (x := .bool b) rfl h3], h2⟩

/-- no range over a function. -/
theorem bok_none {E : Env} (h : ∀ f, E.B f = false) : BOK E := fun f hf => by rw [h f] at hf; cases hf
/-- no contracts. -/
theorem cok_none {E : Env} (h : ∀ f args, E.C f args = none) : COK E := fun f args hh r h' hc => by simp [h] at hc
end Go.Proofs.YthfkkflogbibfaaGreatDoor.AM
