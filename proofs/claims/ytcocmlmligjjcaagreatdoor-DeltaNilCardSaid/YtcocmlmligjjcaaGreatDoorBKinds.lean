/- Kinds of instructions, and whether code can be, by the program and by the document, as contracts of the symbolic machine. -/
import Derived.Test.YtcocmlmligjjcaaGreatDoorS25
import Derived.Test.YtcocmlmligjjcaaGreatDoorProg
namespace Go.Proofs.YtcocmlmligjjcaaGreatDoor.AM
open Go Go.Proofs Go.RowKit
set_option linter.unusedVariables false
set_option linter.unusedSimpArgs false
abbrev tyC : Ty := (.pair (.int .i64) (.pair (.int .i64) (.pair (.str) (.pair (.str) (.str)))))
abbrev tyF : Ty := (.pair (.str) (.str))
abbrev tyI : Ty := (.pair (.int .i64) (.int .i64))
abbrev tyH : Ty := (.pair (.int .i64) (.pair (.int .i64) (.pair (.int .i64) (.str))))
abbrev tyS : Ty := (.str)
abbrev tyM : Ty := .pair .str (.pair .str (.pair (.int .i64) (.pair (.slice tyI) (.slice tyH))))
abbrev tyK : Ty := .pair .str (.pair .str (.pair (.slice tyC) (.pair (.slice tyF) (.slice tyM))))
def formsL : List AV := [.str ⟨#[110, 111, 112]⟩, .int .i64 0, .str ⟨#[105, 110, 116]⟩, .int .i64 1, .str ⟨#[115, 116, 114]⟩, .int .i64 2, .str ⟨#[116, 114, 117, 101]⟩, .int .i64 0, .str ⟨#[102, 97, 108, 115, 101]⟩, .int .i64 0, .str ⟨#[110, 117, 108, 108]⟩, .int .i64 0, .str ⟨#[108, 111, 97, 100]⟩, .int .i64 6, .str ⟨#[115, 116, 111, 114, 101]⟩, .int .i64 6, .str ⟨#[112, 111, 112]⟩, .int .i64 0, .str ⟨#[100, 117, 112]⟩, .int .i64 0, .str ⟨#[97, 100, 100]⟩, .int .i64 0, .str ⟨#[115, 117, 98]⟩, .int .i64 0, .str ⟨#[109, 117, 108]⟩, .int .i64 0, .str ⟨#[100, 105, 118]⟩, .int .i64 0, .str ⟨#[114, 101, 109]⟩, .int .i64 0, .str ⟨#[110, 101, 103]⟩, .int .i64 0, .str ⟨#[110, 111, 116]⟩, .int .i64 0, .str ⟨#[108, 116]⟩, .int .i64 0, .str ⟨#[108, 101]⟩, .int .i64 0, .str ⟨#[101, 113, 105]⟩, .int .i64 0, .str ⟨#[101, 113, 98]⟩, .int .i64 0, .str ⟨#[101, 113, 114]⟩, .int .i64 0, .str ⟨#[106, 117, 109, 112]⟩, .int .i64 7, .str ⟨#[106, 117, 109, 112, 116]⟩, .int .i64 7, .str ⟨#[106, 117, 109, 112, 102]⟩, .int .i64 7, .str ⟨#[110, 101, 119]⟩, .int .i64 3, .str ⟨#[103, 101, 116, 102]⟩, .int .i64 4, .str ⟨#[112, 117, 116, 102]⟩, .int .i64 4, .str ⟨#[97, 114, 114]⟩, .int .i64 3, .str ⟨#[97, 108, 111, 97, 100]⟩, .int .i64 0, .str ⟨#[97, 115, 116, 111, 114, 101]⟩, .int .i64 0, .str ⟨#[97, 108, 101, 110]⟩, .int .i64 0, .str ⟨#[99, 97, 108, 108]⟩, .int .i64 5, .str ⟨#[114, 101, 116]⟩, .int .i64 0, .str ⟨#[114, 101, 116, 118]⟩, .int .i64 0, .str ⟨#[116, 104, 114, 111, 119]⟩, .int .i64 0, .str ⟨#[101, 110, 116, 101, 114]⟩, .int .i64 0, .str ⟨#[101, 120, 105, 116]⟩, .int .i64 0, .str ⟨#[99, 97, 115, 116]⟩, .int .i64 3, .str ⟨#[105, 115]⟩, .int .i64 3, .str ⟨#[112, 114, 105, 110, 116]⟩, .int .i64 0, .str ⟨#[114, 101, 97, 100]⟩, .int .i64 0, .str ⟨#[106, 111, 105, 110]⟩, .int .i64 0, .str ⟨#[115, 108, 101, 110]⟩, .int .i64 0, .str ⟨#[115, 112, 97, 119, 110]⟩, .int .i64 0, .str ⟨#[111, 108, 100]⟩, .int .i64 4]
noncomputable def E0 : Env := { P := Tryz.prog, C := fun _ _ => none, G := fun g => if g = 0 then some formsL else none, M := 1000, L := fun _ _ => false, LC := fun _ => false, S := fun t => !Tryz.prog.stoodInHeld t }
def kNo (p : List Nat) : Known := fun q => if q = p then some (fun _ _ => .fail) else none
noncomputable def bodyOf (fn : Func) : Code := (fn.body).getD .skip
noncomputable def XN (f : FuncId) (sp : List Nat) : SX := { E := E0, f := f, con := fun _ => false, split := fun d => sp.contains d, call := fun _ _ _ => .fail }
noncomputable def XC (f : FuncId) (sp : List Nat) (cs : List Cl) : SX := { E := E0, f := f, con := fun _ => false, split := fun d => sp.contains d, call := callsBy cs }
theorem g0 : Ground E0 := ⟨fun t h => by simpa [E0] using h, cok_none (fun _ _ => rfl), bok_none (fun _ => rfl), by kernel_rfl⟩
theorem noRefForms : noRefs formsL = true := by kernel_rfl
theorem noG0 : ∀ i cs, E0.G i = some cs → noRefs cs = true := by
  intro i cs h
  simp only [E0] at h
  split at h
  · cases h; exact noRefForms
  · cases h
theorem kNo_ok {E : Env} {N : Nat} {hb : H} {b : Code} {p : List Nat} : KOK E N hb b (kNo p) := by
  intro q k hk τ h y τ' h1 hr
  simp only [kNo] at hk
  split at hk
  · cases hk; cases hr
  · cases hk
noncomputable def X89 : SX := XN 262 [5]
noncomputable def X59 : SX := { E := E0, f := 186, con := fun _ => false, split := fun d => [5].contains d, call := callsRun [(262, X89, Tryz.f262, bodyOf Tryz.f262)] }
noncomputable def X90 (ns : List AV) : SX := { E := E0, f := 328, con := fun _ => false, split := fun d => [5, 10].contains d, call := callsBy [⟨359, fun a => a = [], fun _ => .lst 1 ns .open_⟩] }
noncomputable def X60 (op : Int) : SX := { E := E0, f := 291, con := fun _ => false, split := fun d => [4, 6, 8, 13, 17, 19, 22, 28].contains d, call := callsBy [⟨328, fun a => a = [.int .i64 op], fun _ => .str .empty⟩] }
theorem k59 (op : Int) : runV X59 (fun _ => none) Tryz.f186 (bodyOf Tryz.f186) [.int .i64 op] =
  (T.br (decide ((0 : Int) ≤ op))
    (T.br (!decide (op < (46 : Int)))
      (T.leaf (AV.int IntKind.i64 (-1)))
      T.fail)
    (T.br true
      (T.leaf (AV.int IntKind.i64 (-1)))
      T.fail)) := by kernel_rfl
theorem k90 (ns : List AV) (op : Int) : runV (X90 ns) (fun _ => none) Tryz.f328 (bodyOf Tryz.f328) [.int .i64 op] =
  (T.br (decide (op < (0 : Int)))
    (T.br true
      (T.leaf (AV.str { data := { toList := [] } }))
      (T.br (askQ (fun a => a = []) [])
        (T.br (decide ((0 : Int) ≤ op) && decide (op < (↑ns.length : Int)) &&
  fitsC Tryz.prog (9 : Nat) (ns.getD op.toNat undef))
          (T.leaf (AV.str ((ns.getD op.toNat undef).cells.getD 0 undef).toS))
          T.fail)
        T.fail))
    (T.br (askQ (fun a => a = []) [])
      (T.br (decide ((↑ns.length : Int) ≤ op))
        (T.leaf (AV.str { data := { toList := [] } }))
        (T.br (askQ (fun a => a = []) [])
          (T.br (decide ((0 : Int) ≤ op) && decide (op < (↑ns.length : Int)) &&
  fitsC Tryz.prog (9 : Nat) (ns.getD op.toNat undef))
            (T.leaf (AV.str ((ns.getD op.toNat undef).cells.getD 0 undef).toS))
            T.fail)
          T.fail))
      T.fail)) := by kernel_rfl
theorem k60 (op : Int) : runV (X60 op) (fun _ => none) Tryz.f291 (bodyOf Tryz.f291) [.int .i64 op] =
  (T.br (decide (op = (1 : Int)))
    (T.leaf (AV.int IntKind.i64 1))
    (T.br (decide (op = (2 : Int)))
      (T.leaf (AV.int IntKind.i64 2))
      (T.br (decide (op = (25 : Int)))
        (T.leaf (AV.int IntKind.i64 3))
        (T.br (decide (op = (28 : Int)))
          (T.leaf (AV.int IntKind.i64 3))
          (T.br (decide (op = (38 : Int)))
            (T.leaf (AV.int IntKind.i64 3))
            (T.br (decide (op = (39 : Int)))
              (T.leaf (AV.int IntKind.i64 3))
              (T.br (decide (op = (26 : Int)))
                (T.leaf (AV.int IntKind.i64 4))
                (T.br (decide (op = (27 : Int)))
                  (T.leaf (AV.int IntKind.i64 4))
                  (T.br (decide (op = (45 : Int)))
                    (T.leaf (AV.int IntKind.i64 4))
                    (T.br (decide (op = (32 : Int)))
                      (T.leaf (AV.int IntKind.i64 5))
                      (T.br (decide (op = (6 : Int)))
                        (T.leaf (AV.int IntKind.i64 6))
                        (T.br (decide (op = (7 : Int)))
                          (T.leaf (AV.int IntKind.i64 6))
                          (T.br (decide (op = (22 : Int)))
                            (T.leaf (AV.int IntKind.i64 7))
                            (T.br (decide (op = (23 : Int)))
                              (T.leaf (AV.int IntKind.i64 7))
                              (T.br (decide (op = (24 : Int)))
                                (T.leaf (AV.int IntKind.i64 7))
                                (T.br (askQ (fun a => a = [AV.int IntKind.i64 op]) [AV.int IntKind.i64 op])
                                  (T.br true
                                    (T.leaf (AV.int IntKind.i64 (-1)))
                                    (T.leaf (AV.int IntKind.i64 0)))
                                  T.fail)))))))))))))))) := by kernel_rfl
def kindT : List Int := [0, 1, 2, 0, 0, 0, 6, 6, 0, 0, 0, 0, 0, 0, 0, 0, 0, 0, 0, 0, 0, 0, 7, 7, 7, 3, 4, 4, 3, 0, 0, 0, 5, 0, 0, 0, 0, 0, 3, 3, 0, 0, 0, 0, 0, 4]
/-- the kind of an instruction. -/
def insKind (op : Int) : Int := if 0 ≤ op ∧ op < 46 then kindT.getD op.toNat 0 else -1
noncomputable def chkK (f : FuncId) (k : Nat) : Bool := match acall E0 200 f [.int .i64 (k : Int)] [] with
  | .ok (.int .i64 v, _) => v == kindT.getD k 0
  | _ => false
theorem all59 : (List.range 46).all (chkK 186) = true := by kernel_rfl
theorem all60 : (List.range 46).all (chkK 291) = true := by kernel_rfl
theorem gE0 : Ground E0 := g0
theorem closedK {f : FuncId} (ha : (List.range 46).all (chkK f) = true) {op : Int} (h0 : 0 ≤ op) (h1 : op < 46) (h : H) : Con E0 f [.int .i64 op] h (.int .i64 (insKind op)) h := by
  obtain ⟨k, rfl⟩ := Int.eq_ofNat_of_zero_le h0
  have hk := List.all_eq_true.1 ha k (List.mem_range.2 (by omega))
  unfold chkK at hk
  split at hk
  · rename_i v m hv
    have hv2 : v = insKind (k : Int) := by
      rw [beq_iff_eq] at hk
      rw [hk]; unfold insKind; rw [if_pos ⟨h0, h1⟩, Int.toNat_natCast]
    rw [hv2] at hv
    exact Con.base noG0 (Con.of_acall g0 hv) rfl rfl h
  · cases hk
theorem calls59 : CallOK X59.E X59.calls := callsRun_ok rfl fun r hr => by
  obtain rfl := List.mem_singleton.1 hr
  exact ⟨g0, noCalls fun _ _ _ => rfl, rfl, Tryz.func262, rfl, rfl⟩
theorem con59 (op : Int) (h : H) : Con E0 186 [.int .i64 op] h (.int .i64 (insKind op)) h := by
  by_cases hi : 0 ≤ op ∧ op < 46
  · exact closedK all59 hi.1 hi.2 h
  · have hk : insKind op = -1 := if_neg hi
    rw [hk]
    refine Con.pureV (X := X59) g0 noG0 calls59 (fn := Tryz.f186) Tryz.func186 (c := bodyOf Tryz.f186) rfl rfl (args := [.int .i64 op]) KOK.none rfl ((congrArg T.run (k59 op)).trans ?_) (Le.refl _) rfl h
    by_cases h0 : 0 ≤ op
    · exact bT (decide_eq_true h0) (bT (by simp; omega) rfl)
    · exact bF (decide_eq_false h0) (bT rfl rfl)
noncomputable def chkN : Bool := match acall E0 200 359 [] [] with
  | .ok (.lst 1 l _, _) => l.length == 46 && noRefs l
  | _ => false
theorem names117 : ∃ ns : List AV, ns.length = 46 ∧ ∀ h, Con E0 359 [] h (.lst 1 ns .open_) h := by
  have hk : chkN = true := by kernel_rfl
  unfold chkN at hk
  split at hk
  · rename_i l t m hv
    simp only [Bool.and_eq_true, beq_iff_eq] at hk
    exact ⟨l, hk.1, fun h => Con.based noG0 (Con.of_acall g0 hv) rfl Le.open_ (by simp [noRef, hk.2]) h⟩
  · cases hk
theorem con90out (op : Int) (ho : ¬ (0 ≤ op ∧ op < 46)) (h : H) : Con E0 328 [.int .i64 op] h (.str .empty) h := by
  obtain ⟨ns, hl, hc⟩ := names117
  have hcall : CallOK (X90 ns).E (X90 ns).calls := callsBy_ok rfl fun c hc' args ha h => by
    obtain rfl := List.mem_singleton.1 hc'
    obtain rfl : args = [] := ha
    exact hc h
  refine Con.pureV (X := X90 ns) g0 noG0 hcall (fn := Tryz.f328) Tryz.func328 (c := bodyOf Tryz.f328) rfl rfl (args := [.int .i64 op]) KOK.none rfl ((congrArg T.run (k90 ns op)).trans ?_) (Le.refl _) rfl h
  by_cases h0 : op < 0
  · exact bT (decide_eq_true h0) rfl
  · exact bF (decide_eq_false h0) (bA (bT (by rw [hl]; simp; omega) rfl) rfl)
theorem con60 (op : Int) (h : H) : Con E0 291 [.int .i64 op] h (.int .i64 (insKind op)) h := by
  by_cases hi : 0 ≤ op ∧ op < 46
  · exact closedK all60 hi.1 hi.2 h
  · have hk : insKind op = -1 := if_neg hi
    rw [hk]
    have hcall : CallOK (X60 op).E (X60 op).calls := callsBy_ok rfl fun c hc' args ha h => by
      obtain rfl := List.mem_singleton.1 hc'
      obtain rfl : args = [.int .i64 op] := ha
      exact con90out op hi h
    have ne : ∀ k : Int, 0 ≤ k → k < 46 → decide (op = k) = false := fun k h1 h2 => decide_eq_false fun e => hi (by omega)
    refine Con.pureV (X := X60 op) g0 noG0 hcall (fn := Tryz.f291) Tryz.func291 (c := bodyOf Tryz.f291) rfl rfl (args := [.int .i64 op]) KOK.none rfl ((congrArg T.run (k60 op)).trans ?_) (Le.refl _) rfl h
    have n1 := ne 1 (by decide) (by decide)
    iterate 15 refine bF (ne _ (by decide) (by decide)) ?_
    exact bA (bT rfl rfl) rfl
noncomputable def X126 (op k : Int) : SX := XC 338 [17, 24, 34, 36, 41, 46, 52, 57] [⟨186, fun a => a = [.int .i64 op], fun _ => .int .i64 k⟩]
theorem p126 (op a : Int) (C : List tyC.I) (size locals k : Int) : runV (X126 op k) (fun _ => none) Tryz.f338 (bodyOf Tryz.f338) [.agg [.int .i64 op, .int .i64 a], encL tyC C, .int .i64 size, .int .i64 locals] =
  (T.br (askQ (fun a => a = [AV.int IntKind.i64 op]) [AV.int IntKind.i64 op]) (T.br (decide (k = (-1 : Int))) (T.leaf (AV.bool false)) (T.br (decide (k = (0 : Int))) (T.leaf (AV.bool (decide (a = 0)))) (T.br (decide (k = (6 : Int))) (T.br (decide ((0 : Int) ≤ a)) (T.leaf (AV.bool (decide (a < locals)))) (T.leaf (AV.bool false))) (T.br (decide (k = (7 : Int))) (T.br (decide ((0 : Int) ≤ a)) (T.leaf
  (AV.bool (decide (a < size)))) (T.leaf (AV.bool false))) (T.br (decide ((0 : Int) ≤ a)) (T.br (decide (a < (↑(List.map tyC.elem C).length : Int))) (T.br (decide ((0 : Int) ≤ a) && decide (a < (↑(List.map tyC.elem C).length : Int)) && fitsC Tryz.prog (208 : Nat) ((List.map tyC.elem C).getD a.toNat undef)) (T.leaf (AV.bool (decide ((((List.map tyC.elem C).getD a.toNat undef).cells.getD 0 undef).toI =
  k)))) T.fail) (T.leaf (AV.bool false))) (T.br false (T.br (decide ((0 : Int) ≤ a) && decide (a < (↑(List.map tyC.elem C).length : Int)) && fitsC Tryz.prog (208 : Nat) ((List.map tyC.elem C).getD a.toNat undef)) (T.leaf (AV.bool (decide ((((List.map tyC.elem C).getD a.toNat undef).cells.getD 0 undef).toI = k)))) T.fail) (T.leaf (AV.bool false)))))))) T.fail) := by kernel_rfl
/-- can an instruction be, among these constants, in so long a code, with so many places? k: its kind. -/
def rightK (k a : Int) (l : List AV) (size locals : Int) : Bool :=
  if k = -1 then false else if k = 0 then decide (a = 0) else if k = 6 then (if 0 ≤ a then decide (a < locals) else false) else if k = 7 then (if 0 ≤ a then decide (a < size) else false)
  else if 0 ≤ a then (if a < l.length then decide (((l.getD a.toNat undef).cells.getD 0 undef).toI = k) else false) else false
/-- the same, of arguments. -/
def rightA : List AV → Bool
  | [.agg [.int _ op, .int _ a], .lst _ l _, .int _ size, .int _ locals] => rightK (insKind op) a l size locals
  | _ => false
def okR (args : List AV) : Prop := ∃ (op a : Int) (C : List tyC.I) (size locals : Int), args = [.agg [.int .i64 op, .int .i64 a], encL tyC C, .int .i64 size, .int .i64 locals]
def clR : Cl := ⟨338, okR, fun args => .bool (rightA args)⟩
theorem con126 : ∀ args, clR.ok args → ∀ h, Con E0 clR.f args h (clR.res args) h := by
  rintro args ⟨op, a, C, size, locals, rfl⟩ h
  show Con E0 338 _ h (.bool (rightK (insKind op) a (C.map tyC.elem) size locals)) h
  obtain ⟨k, hk⟩ : ∃ k, k = insKind op := ⟨_, rfl⟩
  rw [← hk]
  have hcall : CallOK (X126 op k).E (X126 op k).calls := callsBy_ok rfl fun c hc' args ha h => by
    obtain rfl := List.mem_singleton.1 hc'
    obtain rfl : args = [.int .i64 op] := ha
    rw [hk]; exact con59 op h
  have hn : noRefs [AV.agg [.int .i64 op, .int .i64 a], encL tyC C, .int .i64 size, .int .i64 locals] = true := by simp only [noRefs, encL_noRef, Bool.and_true, Bool.true_and]; rfl
  refine Con.pureV (X := X126 op k) g0 noG0 hcall (fn := Tryz.f338) Tryz.func338 (c := bodyOf Tryz.f338) rfl rfl (args := [.agg [.int .i64 op, .int .i64 a], encL tyC C, .int .i64 size, .int .i64 locals]) KOK.none hn ((congrArg T.run (p126 op a C size locals k)).trans (bA ?_ rfl)) (Le.refl _) rfl h
  have fx : 0 ≤ a → a < (C.map tyC.elem).length → (decide ((0 : Int) ≤ a) && decide (a < (((C.map tyC.elem).length : Nat) : Int)) && fitsC Tryz.prog 208 ((C.map tyC.elem).getD a.toNat undef)) = true := fun h0 h1 => by
    obtain ⟨j, rfl⟩ := Int.eq_ofNat_of_zero_le h0
    exact idx_ok (by simpa using h1) (by kernel_rfl)
  unfold rightK
  by_cases c1 : k = -1
  · rw [if_pos c1]; exact bT (decide_eq_true c1) rfl
  rw [if_neg c1]; refine bF (decide_eq_false c1) ?_
  by_cases c2 : k = 0
  · rw [if_pos c2]; exact bT (decide_eq_true c2) rfl
  rw [if_neg c2]; refine bF (decide_eq_false c2) ?_
  by_cases c3 : k = 6
  · rw [if_pos c3]; refine bT (decide_eq_true c3) ?_
    by_cases c6 : 0 ≤ a
    · rw [if_pos c6]; exact bT (decide_eq_true c6) rfl
    · rw [if_neg c6]; exact bF (decide_eq_false c6) rfl
  rw [if_neg c3]; refine bF (decide_eq_false c3) ?_
  by_cases c4 : k = 7
  · rw [if_pos c4]; refine bT (decide_eq_true c4) ?_
    by_cases c6 : 0 ≤ a
    · rw [if_pos c6]; exact bT (decide_eq_true c6) rfl
    · rw [if_neg c6]; exact bF (decide_eq_false c6) rfl
  rw [if_neg c4]; refine bF (decide_eq_false c4) ?_
  by_cases c5 : 0 ≤ a
  · rw [if_pos c5]; refine bT (decide_eq_true c5) ?_
    by_cases c6 : a < ((C.map tyC.elem).length : Nat)
    · rw [if_pos c6]; exact bT (decide_eq_true c6) (bT (fx c5 c6) rfl)
    · rw [if_neg c6]; exact bF (decide_eq_false c6) rfl
  · rw [if_neg c5]; exact bF (decide_eq_false c5) (bF rfl rfl)
noncomputable def X124a : SX := { E := E0, f := 336, con := fun _ => false, split := fun d => [9,16].contains d, call := callsRun [(337, XC 337 [] [clR], Tryz.f337, bodyOf Tryz.f337)] }
def st124 (L : List tyI.I) (c : AV) (j : Nat) : List (Nat × AV) := [(0, encL tyI L), (1, c), (7, .int .i64 (((L.map tyI.elem).length : Nat) : Int)), (8, .int .i64 j)]
def rt124 (j : Nat) : List (Nat × AV) := [(4, .int .i64 j)]
theorem p124a (L : List tyI.I) (C : List tyC.I) (n : Int) (m i : Int) : obsK X124a (fun _ => none) 19 (sub (bodyOf Tryz.f336) [1,0,1,0,0]) [1,0,1,0,0] (frm [(0, encL tyI L), (1, .clo 337 [] [.ptr 1 0, .ptr 0 0, .ptr 2 0]), (7, .int .i64 m), (8, .int .i64 i)]) [.var [encL tyI L], .var [encL tyC C], .var [.int .i64 n]] [0,1,4,7,8] =
  (T.br (decide (i < m)) (T.br (decide ((0 : Int) ≤ i) && decide (i < (↑(List.map tyI.elem L).length : Int)) && fitsC Tryz.prog (206 : Nat) ((List.map tyI.elem L).getD i.toNat undef)) (T.br (askQ clR.2 [AV.agg [AV.int IntKind.i64 (((List.map tyI.elem L).getD i.toNat undef).cells.getD 0 undef).toI, AV.int IntKind.i64 (((List.map tyI.elem L).getD i.toNat undef).cells.getD 1 undef).toI], AV.lst 5
  (List.map tyC.elem C) Tl.open_, AV.int IntKind.i64 (↑(List.map tyI.elem L).length : Int), AV.int IntKind.i64 n]) (T.br (!rightA [AV.agg [AV.int IntKind.i64 (((List.map tyI.elem L).getD i.toNat undef).cells.getD 0 undef).toI, AV.int IntKind.i64 (((List.map tyI.elem L).getD i.toNat undef).cells.getD 1 undef).toI], AV.lst 5 (List.map tyC.elem C) Tl.open_, AV.int IntKind.i64 (↑(List.map tyI.elem
  L).length : Int), AV.int IntKind.i64 n]) (T.leaf ((X.ret, [AV.lst 2 (List.map tyI.elem L) Tl.open_, AV.clo 337 [] [AV.ptr 1 0, AV.ptr 0 0, AV.ptr 2 0], AV.int IntKind.i64 i, AV.int IntKind.i64 m, AV.int IntKind.i64 i], [Blk.var [AV.lst 2 (List.map tyI.elem L) Tl.open_], Blk.var [AV.lst 5 (List.map tyC.elem C) Tl.open_], Blk.var [AV.int IntKind.i64 n], Blk.var [AV.int IntKind.i64 (((List.map
  tyI.elem L).getD i.toNat undef).cells.getD 0 undef).toI, AV.int IntKind.i64 (((List.map tyI.elem L).getD i.toNat undef).cells.getD 1 undef).toI]]))) (T.leaf ((X.normal, [AV.lst 2 (List.map tyI.elem L) Tl.open_, AV.clo 337 [] [AV.ptr 1 0, AV.ptr 0 0, AV.ptr 2 0], AV.fsl 0 [], AV.int IntKind.i64 m, AV.int IntKind.i64 (IntKind.i64.wrap (i + 1))], [Blk.var [AV.lst 2 (List.map tyI.elem L) Tl.open_],
  Blk.var [AV.lst 5 (List.map tyC.elem C) Tl.open_], Blk.var [AV.int IntKind.i64 n], Blk.var [AV.int IntKind.i64 (((List.map tyI.elem L).getD i.toNat undef).cells.getD 0 undef).toI, AV.int IntKind.i64 (((List.map tyI.elem L).getD i.toNat undef).cells.getD 1 undef).toI]])))) T.fail) T.fail) (T.leaf ((X.exit 0, [AV.lst 2 (List.map tyI.elem L) Tl.open_, AV.clo 337 [] [AV.ptr 1 0, AV.ptr 0 0, AV.ptr 2
  0], AV.fsl 0 [], AV.int IntKind.i64 m, AV.int IntKind.i64 i], [Blk.var [AV.lst 2 (List.map tyI.elem L) Tl.open_], Blk.var [AV.lst 5 (List.map tyC.elem C) Tl.open_], Blk.var [AV.int IntKind.i64 n]])))) := by kernel_rfl
theorem p124as (L : List tyI.I) (C : List tyC.I) (n : Int) (j : Nat) : runF X124a (kAt [1,0,1] (st124 L (.clo 337 [] [.ptr 1 0, .ptr 0 0, .ptr 2 0]) 0) [.var [encL tyI L], .var [encL tyC C], .var [.int .i64 n]] .ret (rt124 j) [.var [encL tyI L], .var [encL tyC C], .var [.int .i64 n]]) Tryz.f336 (bodyOf Tryz.f336) [encL tyI L, .clo 337 [] [.ptr 1 0, .ptr 0 0, .ptr 2 0]] [.var [encL tyI L], .var [encL tyC C], .var [.int .i64 n]] =
  (T.br (askS [AV.lst 2 (List.map tyI.elem L) Tl.open_, AV.clo (337 : Nat) [] [AV.ptr 1 (0 : Nat), AV.ptr 0 (0 : Nat), AV.ptr 2 (0 : Nat)], AV.int IntKind.i64 (↑(List.map tyI.elem L).length : Int), AV.int IntKind.i64 (0 : Int)] [AV.lst 2 (List.map tyI.elem L) Tl.open_, AV.clo (337 : Nat) [] [AV.ptr 1 (0 : Nat), AV.ptr 0 (0 : Nat), AV.ptr 2 (0 : Nat)], AV.int IntKind.i64 (↑(List.map tyI.elem L).length
  : Int), AV.int IntKind.i64 (↑(0 : Nat) : Int)] [Blk.var [AV.lst 2 (List.map tyI.elem L) Tl.open_], Blk.var [AV.lst 5 (List.map tyC.elem C) Tl.open_], Blk.var [AV.int IntKind.i64 n]] [Blk.var [AV.lst 2 (List.map tyI.elem L) Tl.open_], Blk.var [AV.lst 5 (List.map tyC.elem C) Tl.open_], Blk.var [AV.int IntKind.i64 n]]) (T.leaf ((AV.int IntKind.i64 (↑j : Int), [Blk.var [AV.lst 2 (List.map tyI.elem L)
  Tl.open_], Blk.var [AV.lst 5 (List.map tyC.elem C) Tl.open_], Blk.var [AV.int IntKind.i64 n]]))) T.fail) := by kernel_rfl
theorem p124an (L : List tyI.I) (C : List tyC.I) (n : Int) : runF X124a (kAt [1,0,1] (st124 L (.clo 337 [] [.ptr 1 0, .ptr 0 0, .ptr 2 0]) 0) [.var [encL tyI L], .var [encL tyC C], .var [.int .i64 n]] .normal (st124 L (.clo 337 [] [.ptr 1 0, .ptr 0 0, .ptr 2 0]) L.length) [.var [encL tyI L], .var [encL tyC C], .var [.int .i64 n]]) Tryz.f336 (bodyOf Tryz.f336) [encL tyI L, .clo 337 [] [.ptr 1 0, .ptr 0 0, .ptr 2 0]] [.var [encL tyI L], .var [encL tyC C], .var [.int .i64 n]] =
  (T.br (askS [AV.lst 2 (List.map tyI.elem L) Tl.open_, AV.clo (337 : Nat) [] [AV.ptr 1 (0 : Nat), AV.ptr 0 (0 : Nat), AV.ptr 2 (0 : Nat)], AV.int IntKind.i64 (↑(List.map tyI.elem L).length : Int), AV.int IntKind.i64 (0 : Int)] [AV.lst 2 (List.map tyI.elem L) Tl.open_, AV.clo (337 : Nat) [] [AV.ptr 1 (0 : Nat), AV.ptr 0 (0 : Nat), AV.ptr 2 (0 : Nat)], AV.int IntKind.i64 (↑(List.map tyI.elem L).length
  : Int), AV.int IntKind.i64 (↑(0 : Nat) : Int)] [Blk.var [AV.lst 2 (List.map tyI.elem L) Tl.open_], Blk.var [AV.lst 5 (List.map tyC.elem C) Tl.open_], Blk.var [AV.int IntKind.i64 n]] [Blk.var [AV.lst 2 (List.map tyI.elem L) Tl.open_], Blk.var [AV.lst 5 (List.map tyC.elem C) Tl.open_], Blk.var [AV.int IntKind.i64 n]]) (T.leaf ((AV.int IntKind.i64 (-1), [Blk.var [AV.lst 2 (List.map tyI.elem L)
  Tl.open_], Blk.var [AV.lst 5 (List.map tyC.elem C) Tl.open_], Blk.var [AV.int IntKind.i64 n]]))) T.fail) := by kernel_rfl
noncomputable def X102 (L : List tyI.I) (C : List tyC.I) (n r : Int) : SX := { E := E0, f := 303, con := fun _ => false, split := fun d => [12,16,21].contains d, call := callsH [⟨336, [encL tyI L, .clo 337 [] [.ptr 1 0, .ptr 0 0, .ptr 2 0]], [.var [encL tyI L], .var [encL tyC C], .var [.int .i64 n]], .int .i64 r, [.var [encL tyI L], .var [encL tyC C], .var [.int .i64 n]]⟩] }
theorem p102 (L : List tyI.I) (C : List tyC.I) (n : Int) (r : Int) : runV (X102 L C n r) (fun _ => none) Tryz.f303 (bodyOf Tryz.f303) [encL tyI L, encL tyC C, .int .i64 n] =
  (T.br (decide ((↑(List.map tyI.elem L).length : Int) = (0 : Int))) (T.br true (T.leaf (AV.tup [AV.int IntKind.i64 0, AV.int IntKind.i64 6])) (T.br (askS [AV.lst 2 (List.map tyI.elem L) Tl.open_, AV.clo (337 : Nat) [] [AV.ptr 1 (0 : Nat), AV.ptr 0 (0 : Nat), AV.ptr 2 (0 : Nat)]] [AV.lst 2 (List.map tyI.elem L) Tl.open_, AV.clo (337 : Nat) [] [AV.ptr 1 (0 : Nat), AV.ptr 0 (0 : Nat), AV.ptr 2 (0 :
  Nat)]] [Blk.var [AV.lst 2 (List.map tyI.elem L) Tl.open_], Blk.var [AV.lst 5 (List.map tyC.elem C) Tl.open_], Blk.var [AV.int IntKind.i64 n]] [Blk.var [AV.lst 2 (List.map tyI.elem L) Tl.open_], Blk.var [AV.lst 5 (List.map tyC.elem C) Tl.open_], Blk.var [AV.int IntKind.i64 n]]) (T.br (decide ((0 : Int) ≤ r)) (T.leaf (AV.tup [AV.int IntKind.i64 r, AV.int IntKind.i64 12])) (T.leaf (AV.tup [AV.int
  IntKind.i64 0, AV.int IntKind.i64 0]))) T.fail)) (T.br (decide ((512 : Int) < (↑(List.map tyI.elem L).length : Int))) (T.leaf (AV.tup [AV.int IntKind.i64 0, AV.int IntKind.i64 6])) (T.br (askS [AV.lst 2 (List.map tyI.elem L) Tl.open_, AV.clo (337 : Nat) [] [AV.ptr 1 (0 : Nat), AV.ptr 0 (0 : Nat), AV.ptr 2 (0 : Nat)]] [AV.lst 2 (List.map tyI.elem L) Tl.open_, AV.clo (337 : Nat) [] [AV.ptr 1 (0 :
  Nat), AV.ptr 0 (0 : Nat), AV.ptr 2 (0 : Nat)]] [Blk.var [AV.lst 2 (List.map tyI.elem L) Tl.open_], Blk.var [AV.lst 5 (List.map tyC.elem C) Tl.open_], Blk.var [AV.int IntKind.i64 n]] [Blk.var [AV.lst 2 (List.map tyI.elem L) Tl.open_], Blk.var [AV.lst 5 (List.map tyC.elem C) Tl.open_], Blk.var [AV.int IntKind.i64 n]]) (T.br (decide ((0 : Int) ≤ r)) (T.leaf (AV.tup [AV.int IntKind.i64 r, AV.int
  IntKind.i64 12])) (T.leaf (AV.tup [AV.int IntKind.i64 0, AV.int IntKind.i64 0]))) T.fail))) := by kernel_rfl
theorem shape_tyI (x : tyI.I) : AV.agg [AV.int .i64 ((tyI.elem x).cells.getD 0 undef).toI, AV.int .i64 ((tyI.elem x).cells.getD 1 undef).toI] = tyI.elem x := by
  obtain ⟨a0, a1⟩ := x; rfl
/-- an instruction that can not be. -/
def badI (L : List tyI.I) (C : List tyC.I) (n : Int) (j : Nat) : Prop := rightA [tyI.elem (L.getD j tyI.zero), encL tyC C, .int .i64 (((L.map tyI.elem).length : Nat) : Int), .int .i64 n] = false
def hm102 (L : List tyI.I) (C : List tyC.I) (n : Int) : H := [.var [encL tyI L], .var [encL tyC C], .var [.int .i64 n]]
theorem clR_ok (x : tyI.I) (C : List tyC.I) (m n : Int) : clR.ok [tyI.elem x, encL tyC C, .int .i64 m, .int .i64 n] := by
  obtain ⟨a, b⟩ := x
  exact ⟨a, b, C, m, n, rfl⟩
theorem calls125 : CallOK (XC 337 [] [clR]).E (XC 337 [] [clR]).calls := callsBy_ok rfl fun c hc => by
  obtain rfl := List.mem_singleton.1 hc
  exact con126
theorem calls124a : CallOK X124a.E X124a.calls := callsRun_ok rfl fun r hr => by
  obtain rfl := List.mem_singleton.1 hr
  exact ⟨g0, calls125, rfl, Tryz.func337, rfl, rfl⟩
theorem seen124a (L : List tyI.I) (C : List tyC.I) (n : Int) {τ : Fr} {h : H} {x : X} {vs : List AV} {extra : H}
    (hr : (obsK X124a (fun _ => none) 19 (sub (bodyOf Tryz.f336) [1,0,1,0,0]) [1,0,1,0,0] τ h [0,1,4,7,8]).run = .ok (x, vs, hm102 L C n ++ extra)) {sl : List (Nat × AV)}
    (hs : ∀ q, q ∈ sl → frm ([0,1,4,7,8].zip vs) q.1 = q.2 ∧ (noRef q.2 = true ∨ q.2 = .clo 337 [] [.ptr 1 0, .ptr 0 0, .ptr 2 0]) ∧ isFsl q.2 = false) : Tri E0 19 (hm102 L C n) (sub (bodyOf Tryz.f336) [1,0,1,0,0]) τ h x (frm sl) (hm102 L C n) := by
  refine Tri.seenB (X := X124a) g0 noG0 calls124a KOK.none rfl hr (Nat.le_refl _) (fun b hb => ?_) (fun b hb => ?_) (fun q hq => ?_)
  · simp only [hm102, List.mem_cons, List.not_mem_nil, or_false] at hb
    rcases hb with rfl | rfl | rfl <;> nofun
  · simp only [hm102, List.mem_cons, List.not_mem_nil, or_false] at hb
    rcases hb with rfl | rfl | rfl
    · exact congrArg Blk.var (rens_noRef _ _ (by simp only [noRefs, encL_noRef, Bool.and_true]))
    · exact congrArg Blk.var (rens_noRef _ _ (by simp only [noRefs, encL_noRef, Bool.and_true]))
    · rfl
  · obtain ⟨h1, h2, h3⟩ := hs q hq
    refine ⟨h1, ?_, h3⟩
    rcases h2 with h2 | h2
    · exact ren_noRef _ _ h2
    · rw [h2]; rfl
theorem con124a (L : List tyI.I) (C : List tyC.I) (n : Int) (hl : L.length < 1000000000000000) :
    Con E0 336 [encL tyI L, .clo 337 [] [.ptr 1 0, .ptr 0 0, .ptr 2 0]] (hm102 L C n) (.int .i64 (placeOf (firstI (badI L C n) L.length))) (hm102 L C n) := by
  have f0 : fitsC Tryz.prog 206 (tyI.elem tyI.zero) = true := by kernel_rfl
  have fin : ∀ {K : Known} {v : Int}, KOK E0 19 (hm102 L C n) (bodyOf Tryz.f336) K → (runF X124a K Tryz.f336 (bodyOf Tryz.f336) [encL tyI L, .clo 337 [] [.ptr 1 0, .ptr 0 0, .ptr 2 0]] (hm102 L C n)).run = .ok (.int .i64 v, hm102 L C n) → Con E0 336 [encL tyI L, .clo 337 [] [.ptr 1 0, .ptr 0 0, .ptr 2 0]] (hm102 L C n) (.int .i64 v) (hm102 L C n) := fun hk hr =>
    Con.of_run (X := X124a) (f := 336) g0 calls124a (fn := Tryz.f336) Tryz.func336 (c := bodyOf Tryz.f336) rfl rfl (args := [encL tyI L, .clo 337 [] [.ptr 1 0, .ptr 0 0, .ptr 2 0]]) (h := hm102 L C n) hk hr
  have hS : (askS
  [AV.lst (2 : Nat) (List.map tyI.elem L) Tl.open_,
    AV.clo (337 : Nat) [] [AV.ptr (1 : Nat) (0 : Nat), AV.ptr (0 : Nat) (0 : Nat), AV.ptr (2 : Nat) (0 : Nat)],
    AV.int IntKind.i64 (↑(List.map tyI.elem L).length : Int), AV.int IntKind.i64 (0 : Int)]
  [AV.lst (2 : Nat) (List.map tyI.elem L) Tl.open_,
    AV.clo (337 : Nat) [] [AV.ptr (1 : Nat) (0 : Nat), AV.ptr (0 : Nat) (0 : Nat), AV.ptr (2 : Nat) (0 : Nat)],
    AV.int IntKind.i64 (↑(List.map tyI.elem L).length : Int), AV.int IntKind.i64 (↑(0 : Nat) : Int)]
  [Blk.var [AV.lst (2 : Nat) (List.map tyI.elem L) Tl.open_], Blk.var [AV.lst (5 : Nat) (List.map tyC.elem C) Tl.open_],
    Blk.var [AV.int IntKind.i64 n]]
  [Blk.var [AV.lst (2 : Nat) (List.map tyI.elem L) Tl.open_], Blk.var [AV.lst (5 : Nat) (List.map tyC.elem C) Tl.open_],
    Blk.var [AV.int IntKind.i64 n]]) = true := askS_self _ _
  have hq : ∀ j : Nat, askQ clR.2 [tyI.elem (L.getD j tyI.zero), AV.lst 5 (List.map tyC.elem C) Tl.open_, AV.int .i64 (((L.map tyI.elem).length : Nat) : Int), AV.int .i64 n] = true := fun j => ask_true (clR_ok _ C _ n)
  have hT := find_rounds (E := E0) (N := 19) (h0 := hm102 L C n) (c := sub (bodyOf Tryz.f336) [1,0,1,0,0]) (p := badI L C n) (n := L.length) (st := st124 L (.clo 337 [] [.ptr 1 0, .ptr 0 0, .ptr 2 0])) (hm := hm102 L C n) (rt := rt124) (id := 0)
    (fun j hj hp => by
      have ht := p124a L C n (((L.map tyI.elem).length : Nat) : Int) j
      have hp' : (!rightA [tyI.elem (L.getD j tyI.zero), AV.lst 5 (List.map tyC.elem C) Tl.open_, AV.int .i64 (((L.map tyI.elem).length : Nat) : Int), AV.int .i64 n]) = false := by
        unfold badI at hp
        rw [Bool.not_eq_false] at hp
        exact congrArg not hp
      rw [idx_ok hj f0, lt_ok hj, Int.toNat_natCast, getD_elem hj, wrap_next (by omega), shape_tyI, hq, hp'] at ht
      refine seen124a L C n (extra := [.var _]) (congrArg T.run ht) (fun q hq => ?_)
      simp only [st124, List.mem_cons, List.not_mem_nil, or_false] at hq
      rcases hq with rfl | rfl | rfl | rfl
      · exact ⟨rfl, .inl (encL_noRef _ _), rfl⟩
      · exact ⟨rfl, .inr rfl, rfl⟩
      · exact ⟨rfl, .inl rfl, rfl⟩
      · exact ⟨rfl, .inl rfl, rfl⟩)
    (fun j hj hp => by
      have ht := p124a L C n (((L.map tyI.elem).length : Nat) : Int) j
      have hp' : (!rightA [tyI.elem (L.getD j tyI.zero), AV.lst 5 (List.map tyC.elem C) Tl.open_, AV.int .i64 (((L.map tyI.elem).length : Nat) : Int), AV.int .i64 n]) = true := congrArg not hp
      rw [idx_ok hj f0, lt_ok hj, Int.toNat_natCast, getD_elem hj, shape_tyI, hq, hp'] at ht
      refine seen124a L C n (extra := [.var _]) (congrArg T.run ht) (fun q hq => ?_)
      simp only [rt124, List.mem_cons, List.not_mem_nil, or_false] at hq
      rcases hq with rfl
      exact ⟨rfl, .inl rfl, rfl⟩)
    (by
      have ht := p124a L C n (((L.map tyI.elem).length : Nat) : Int) L.length
      rw [lt_no] at ht
      refine seen124a L C n (extra := []) (congrArg T.run ht) (fun q hq => ?_)
      simp only [st124, List.mem_cons, List.not_mem_nil, or_false] at hq
      rcases hq with rfl | rfl | rfl | rfl
      · exact ⟨rfl, .inl (encL_noRef _ _), rfl⟩
      · exact ⟨rfl, .inr rfl, rfl⟩
      · exact ⟨rfl, .inl rfl, rfl⟩
      · exact ⟨rfl, .inl rfl, rfl⟩)
  cases hf : firstI (badI L C n) L.length with
  | some i =>
    rw [hf] at hT
    have hk : KOK E0 19 (hm102 L C n) (bodyOf Tryz.f336) (kAt [1,0,1] (st124 L (.clo 337 [] [.ptr 1 0, .ptr 0 0, .ptr 2 0]) 0) (hm102 L C n) .ret (rt124 i) (hm102 L C n)) := kAt_ok (Tri.block (id := 0) (Tri.loop hT))
    have ht := p124as L C n i
    rw [hS] at ht
    exact fin hk (congrArg T.run ht)
  | none =>
    rw [hf] at hT
    have hk : KOK E0 19 (hm102 L C n) (bodyOf Tryz.f336) (kAt [1,0,1] (st124 L (.clo 337 [] [.ptr 1 0, .ptr 0 0, .ptr 2 0]) 0) (hm102 L C n) .normal (st124 L (.clo 337 [] [.ptr 1 0, .ptr 0 0, .ptr 2 0]) L.length) (hm102 L C n)) := kAt_ok (Tri.block (id := 0) (Tri.loop hT))
    have ht := p124an L C n
    rw [hS] at ht
    exact fin hk (congrArg T.run ht)
/-- which instruction can not be, and why. -/
noncomputable def checkR (L : List tyI.I) (C : List tyC.I) (n : Int) : Int × Int :=
  if L.length = 0 ∨ 512 < L.length then (0, 6) else match firstI (badI L C n) L.length with
    | some i => (i, 12)
    | none => (0, 0)
theorem con102 (L : List tyI.I) (C : List tyC.I) (n : Int) (hl : L.length < 1000000000000000) (h : H) : Con E0 303 [encL tyI L, encL tyC C, .int .i64 n] h (.tup [.int .i64 (checkR L C n).1, .int .i64 (checkR L C n).2]) h := by
  have hn : noRefs [encL tyI L, encL tyC C, .int .i64 n] = true := by simp only [noRefs, encL_noRef, Bool.and_true, Bool.true_and]; rfl
  obtain ⟨r, hr⟩ : ∃ r, r = placeOf (firstI (badI L C n) L.length) := ⟨_, rfl⟩
  have hc := con124a L C n hl
  rw [← hr] at hc
  have hcall : CallOK (X102 L C n r).E (X102 L C n r).calls := callsH_ok rfl fun q hq => by
    obtain rfl := List.mem_singleton.1 hq
    exact hc
  have hlen : (L.map tyI.elem).length = L.length := by simp
  refine Con.pureV (X := X102 L C n r) g0 noG0 hcall (fn := Tryz.f303) Tryz.func303 (c := bodyOf Tryz.f303) rfl rfl (args := [encL tyI L, encL tyC C, .int .i64 n]) KOK.none hn ((congrArg T.run (p102 L C n r)).trans ?_) (Le.refl _) rfl h
  by_cases h0 : L.length = 0
  · have hR : checkR L C n = (0, 6) := if_pos (.inl h0)
    rw [hR]
    exact bT (by rw [hlen, h0]; rfl) (bT rfl rfl)
  · refine bF (decide_eq_false (by rw [hlen]; omega)) ?_
    by_cases h1 : 512 < L.length
    · have hR : checkR L C n = (0, 6) := if_pos (.inr h1)
      rw [hR]
      exact bT (decide_eq_true (by rw [hlen]; omega)) rfl
    · refine bF (decide_eq_false (by rw [hlen]; omega)) (bS ?_)
      have hR : checkR L C n = match firstI (badI L C n) L.length with
        | some i => ((i : Int), (12 : Int))
        | none => (0, 0) := if_neg (fun h => h.elim h0 h1)
      rw [hR, hr]
      cases firstI (badI L C n) L.length with
      | some i => exact bT (by simp [placeOf]) rfl
      | none => exact bF (by decide) rfl
noncomputable def X73 (op k : Int) : SX := XC 225 [15, 19, 23, 38, 42, 50, 56, 65, 69, 74, 78, 85] [⟨291, fun a => a = [.int .i64 op], fun _ => .int .i64 k⟩]
def st73 (L : List tyI.I) (C : List tyC.I) (n : Int) (j : Nat) : List (Nat × AV) := [(0, encL tyI L), (1, encL tyC C), (2, .int .i64 n), (8, .int .i64 j)]
theorem p73 (L : List tyI.I) (C : List tyC.I) (n : Int) (op k i : Int) : obsK (X73 op k) (fun _ => none) 87 (sub (bodyOf Tryz.f225) [1,1,0,1,0,0]) [1,1,0,1,0,0] (frm [(0, encL tyI L), (1, encL tyC C), (2, .int .i64 n), (8, .int .i64 i)]) [] [0,1,2,6,7,8] =
  ((fun (s0 : T (X × List AV × H)) => ((fun (s1 : T (X × List AV × H)) => ((fun (s2 : T (X × List AV × H)) => ((fun (s3 : T (X × List AV × H)) => ((fun (s4 : T (X × List AV × H)) => ((fun (s5 : T (X × List AV × H)) => (T.br (decide (i < (↑(List.map tyI.elem L).length : Int))) (T.br (decide ((0 : Int) ≤ i) && decide (i < (↑(List.map tyI.elem L).length : Int)) && fitsC Tryz.prog (206 : Nat) ((List.map
  tyI.elem L).getD i.toNat undef)) (T.br (askQ (fun a => a = [AV.int IntKind.i64 op]) [AV.int IntKind.i64 (((List.map tyI.elem L).getD i.toNat undef).cells.getD 0 undef).toI]) (T.br (decide ((0 : Int) ≤ i) && decide (i < (↑(List.map tyI.elem L).length : Int)) && fitsC Tryz.prog (206 : Nat) ((List.map tyI.elem L).getD i.toNat undef)) (T.br (decide (k = (0 : Int))) (T.br (!decide ((((List.map tyI.elem
  L).getD i.toNat undef).cells.getD 1 undef).toI = (0 : Int))) s0 s1) (T.br (decide (k = (1 : Int))) s5 (T.br (decide (k = (2 : Int))) s5 (T.br (decide (k = (3 : Int))) s5 (T.br (decide (k = (4 : Int))) s5 (T.br (decide (k = (5 : Int))) s5 (T.br (decide (k = (6 : Int))) (T.br (decide ((0 : Int) ≤ (((List.map tyI.elem L).getD i.toNat undef).cells.getD 1 undef).toI)) (T.br (!decide ((((List.map
  tyI.elem L).getD i.toNat undef).cells.getD 1 undef).toI < n)) s0 s1) (T.br true s0 s1)) (T.br (decide (k = (7 : Int))) (T.br (decide ((0 : Int) ≤ (((List.map tyI.elem L).getD i.toNat undef).cells.getD 1 undef).toI)) (T.br (!decide ((((List.map tyI.elem L).getD i.toNat undef).cells.getD 1 undef).toI < (↑(List.map tyI.elem L).length : Int))) s0 s1) (T.br true s0 s1)) (T.br true s0 s1))))))))) T.fail)
  T.fail) T.fail) (T.leaf ((X.exit 0, [AV.lst 2 (List.map tyI.elem L) Tl.open_, AV.lst 5 (List.map tyC.elem C) Tl.open_, AV.int IntKind.i64 n, AV.fsl 0 [], AV.fsl 0 [], AV.int IntKind.i64 i], []))))) (T.br (decide ((0 : Int) ≤ (((List.map tyI.elem L).getD i.toNat undef).cells.getD 1 undef).toI)) s4 (T.br false s3 (T.br true s0 s1))))) (T.br (decide ((((List.map tyI.elem L).getD i.toNat
  undef).cells.getD 1 undef).toI < (↑(List.map tyC.elem C).length : Int))) s3 (T.br true s0 s1)))) (T.br (decide ((0 : Int) ≤ (((List.map tyI.elem L).getD i.toNat undef).cells.getD 1 undef).toI) && decide ((((List.map tyI.elem L).getD i.toNat undef).cells.getD 1 undef).toI < (↑(List.map tyC.elem C).length : Int)) && fitsC Tryz.prog (208 : Nat) ((List.map tyC.elem C).getD (((List.map tyI.elem L).getD
  i.toNat undef).cells.getD 1 undef).toI.toNat undef)) s2 T.fail))) (T.br (!decide ((((List.map tyC.elem C).getD (((List.map tyI.elem L).getD i.toNat undef).cells.getD 1 undef).toI.toNat undef).cells.getD 0 undef).toI = k)) s0 s1))) (T.leaf ((X.normal, [AV.lst 2 (List.map tyI.elem L) Tl.open_, AV.lst 5 (List.map tyC.elem C) Tl.open_, AV.int IntKind.i64 n, AV.fsl 0 [], AV.fsl 0 [], AV.int IntKind.i64
  (IntKind.i64.wrap (i + 1))], []))))) (T.leaf ((X.ret, [AV.lst 2 (List.map tyI.elem L) Tl.open_, AV.lst 5 (List.map tyC.elem C) Tl.open_, AV.int IntKind.i64 n, AV.int IntKind.i64 i, AV.int IntKind.i64 12, AV.int IntKind.i64 i], [])))) := by kernel_rfl
theorem p73s (L : List tyI.I) (C : List tyC.I) (n : Int) (i : Nat) : runV (XN 225 [15, 19, 23, 38, 42, 50, 56, 65, 69, 74, 78, 85]) (kAt [1,1,0,1] (st73 L C n 0) [] .ret [(6, .int .i64 i), (7, .int .i64 12)] []) Tryz.f225 (bodyOf Tryz.f225) [encL tyI L, encL tyC C, .int .i64 n] =
  (T.br (decide ((↑(List.map tyI.elem L).length : Int) < (1 : Int))) (T.br true (T.leaf (AV.tup [AV.int IntKind.i64 0, AV.int IntKind.i64 6])) (T.br (askS [AV.lst 2 (List.map tyI.elem L) Tl.open_, AV.lst 5 (List.map tyC.elem C) Tl.open_, AV.int IntKind.i64 n, AV.int IntKind.i64 (0 : Int)] [AV.lst 2 (List.map tyI.elem L) Tl.open_, AV.lst 5 (List.map tyC.elem C) Tl.open_, AV.int IntKind.i64 n, AV.int
  IntKind.i64 (↑(0 : Nat) : Int)] [] []) (T.leaf (AV.tup [AV.int IntKind.i64 (↑i : Int), AV.int IntKind.i64 12])) T.fail)) (T.br (decide ((512 : Int) < (↑(List.map tyI.elem L).length : Int))) (T.leaf (AV.tup [AV.int IntKind.i64 0, AV.int IntKind.i64 6])) (T.br (askS [AV.lst 2 (List.map tyI.elem L) Tl.open_, AV.lst 5 (List.map tyC.elem C) Tl.open_, AV.int IntKind.i64 n, AV.int IntKind.i64 (0 : Int)]
  [AV.lst 2 (List.map tyI.elem L) Tl.open_, AV.lst 5 (List.map tyC.elem C) Tl.open_, AV.int IntKind.i64 n, AV.int IntKind.i64 (↑(0 : Nat) : Int)] [] []) (T.leaf (AV.tup [AV.int IntKind.i64 (↑i : Int), AV.int IntKind.i64 12])) T.fail))) := by kernel_rfl
theorem p73n (L : List tyI.I) (C : List tyC.I) (n : Int) : runV (XN 225 [15, 19, 23, 38, 42, 50, 56, 65, 69, 74, 78, 85]) (kAt [1,1,0,1] (st73 L C n 0) [] .normal (st73 L C n L.length) []) Tryz.f225 (bodyOf Tryz.f225) [encL tyI L, encL tyC C, .int .i64 n] =
  (T.br (decide ((↑(List.map tyI.elem L).length : Int) < (1 : Int))) (T.br true (T.leaf (AV.tup [AV.int IntKind.i64 0, AV.int IntKind.i64 6])) (T.br (askS [AV.lst 2 (List.map tyI.elem L) Tl.open_, AV.lst 5 (List.map tyC.elem C) Tl.open_, AV.int IntKind.i64 n, AV.int IntKind.i64 (0 : Int)] [AV.lst 2 (List.map tyI.elem L) Tl.open_, AV.lst 5 (List.map tyC.elem C) Tl.open_, AV.int IntKind.i64 n, AV.int
  IntKind.i64 (↑(0 : Nat) : Int)] [] []) (T.leaf (AV.tup [AV.int IntKind.i64 0, AV.int IntKind.i64 0])) T.fail)) (T.br (decide ((512 : Int) < (↑(List.map tyI.elem L).length : Int))) (T.leaf (AV.tup [AV.int IntKind.i64 0, AV.int IntKind.i64 6])) (T.br (askS [AV.lst 2 (List.map tyI.elem L) Tl.open_, AV.lst 5 (List.map tyC.elem C) Tl.open_, AV.int IntKind.i64 n, AV.int IntKind.i64 (0 : Int)] [AV.lst 2
  (List.map tyI.elem L) Tl.open_, AV.lst 5 (List.map tyC.elem C) Tl.open_, AV.int IntKind.i64 n, AV.int IntKind.i64 (↑(0 : Nat) : Int)] [] []) (T.leaf (AV.tup [AV.int IntKind.i64 0, AV.int IntKind.i64 0])) T.fail))) := by kernel_rfl
theorem p73x (L : List tyI.I) (C : List tyC.I) (n : Int) : runV (XN 225 [15, 19, 23, 38, 42, 50, 56, 65, 69, 74, 78, 85]) (kNo [1,1,0,1]) Tryz.f225 (bodyOf Tryz.f225) [encL tyI L, encL tyC C, .int .i64 n] =
  (T.br (decide ((↑(List.map tyI.elem L).length : Int) < (1 : Int))) (T.br true (T.leaf (AV.tup [AV.int IntKind.i64 0, AV.int IntKind.i64 6])) T.fail) (T.br (decide ((512 : Int) < (↑(List.map tyI.elem L).length : Int))) (T.leaf (AV.tup [AV.int IntKind.i64 0, AV.int IntKind.i64 6])) T.fail)) := by kernel_rfl
theorem insKind_in (op : Int) : insKind op = -1 ∨ insKind op = 0 ∨ insKind op = 1 ∨ insKind op = 2 ∨ insKind op = 3 ∨ insKind op = 4 ∨ insKind op = 5 ∨ insKind op = 6 ∨ insKind op = 7 := by
  unfold insKind
  by_cases h : 0 ≤ op ∧ op < 46
  · rw [if_pos h]
    obtain ⟨k, rfl⟩ := Int.eq_ofNat_of_zero_le h.1
    have hk : k < 46 := by omega
    rw [Int.toNat_natCast]
    have : ∀ j : Fin 46, kindT.getD j.1 0 = -1 ∨ kindT.getD j.1 0 = 0 ∨ kindT.getD j.1 0 = 1 ∨ kindT.getD j.1 0 = 2 ∨ kindT.getD j.1 0 = 3 ∨ kindT.getD j.1 0 = 4 ∨ kindT.getD j.1 0 = 5 ∨ kindT.getD j.1 0 = 6 ∨ kindT.getD j.1 0 = 7 := by decide
    exact this ⟨k, hk⟩
  · rw [if_neg h]; exact .inl rfl
theorem calls73 (op : Int) : CallOK (X73 op (insKind op)).E (X73 op (insKind op)).calls := callsBy_ok rfl fun c hc' args ha h => by
  obtain rfl := List.mem_singleton.1 hc'
  obtain rfl : args = [.int .i64 op] := ha
  exact con60 op h
set_option maxRecDepth 100000 in
theorem run73 (L : List tyI.I) (C : List tyC.I) (n : Int) (j : Nat) (hj : j < L.length) (hl : L.length < 1000000000000000) (op k a : Int) (hop : op = ((tyI.elem (L.getD j tyI.zero)).cells.getD 0 undef).toI) (ha : a = ((tyI.elem (L.getD j tyI.zero)).cells.getD 1 undef).toI)
    (hk : k = -1 ∨ k = 0 ∨ k = 1 ∨ k = 2 ∨ k = 3 ∨ k = 4 ∨ k = 5 ∨ k = 6 ∨ k = 7) :
    (obsK (X73 op k) (fun _ => none) 87 (sub (bodyOf Tryz.f225) [1,1,0,1,0,0]) [1,1,0,1,0,0] (frm (st73 L C n j)) [] [0,1,2,6,7,8]).run =
      .ok (match rightK k a (C.map tyC.elem) (((L.map tyI.elem).length : Nat) : Int) n with
        | true => (.normal, [encL tyI L, encL tyC C, .int .i64 n, .fsl 0 [], .fsl 0 [], .int .i64 ((j + 1 : Nat) : Int)], [])
        | false => (.ret, [encL tyI L, encL tyC C, .int .i64 n, .int .i64 j, .int .i64 12, .int .i64 j], [])) := by
  have ht := p73 L C n op k j
  have f0 : fitsC Tryz.prog 206 (tyI.elem tyI.zero) = true := by kernel_rfl
  have hq : askQ (fun a => a = [AV.int IntKind.i64 op]) [AV.int IntKind.i64 ((tyI.elem (L.getD j tyI.zero)).cells.getD 0 undef).toI] = true := ask_true (by rw [← hop])
  have fx : 0 ≤ a → a < (C.map tyC.elem).length → (decide ((0 : Int) ≤ a) && decide (a < (((C.map tyC.elem).length : Nat) : Int)) && fitsC Tryz.prog 208 ((C.map tyC.elem).getD a.toNat undef)) = true := fun h0 h1 => by
    obtain ⟨i, rfl⟩ := Int.eq_ofNat_of_zero_le h0
    exact idx_ok (by simpa using h1) (by kernel_rfl)
  rw [idx_ok hj f0, lt_ok hj, Int.toNat_natCast, getD_elem hj, wrap_next (by omega), hq, ← ha] at ht
  refine (congrArg T.run ht).trans ?_
  clear ht hq hop
  unfold rightK
  generalize hn1 : decide (a < n) = w1
  generalize hn2 : decide (a = 0) = w2
  generalize hn3 : decide (a < (((L.map tyI.elem).length : Nat) : Int)) = w3
  by_cases c5 : 0 ≤ a
  · simp only [if_pos c5]
    rw [decide_eq_true c5]
    by_cases c6 : a < ((C.map tyC.elem).length : Nat)
    · have hfx := fx c5 c6
      rw [decide_eq_true c5, decide_eq_true c6] at hfx
      rw [if_pos c6, decide_eq_true c6, hfx]
      generalize decide ((((C.map tyC.elem).getD a.toNat undef).cells.getD 0 undef).toI = k) = w4
      rcases hk with rfl | rfl | rfl | rfl | rfl | rfl | rfl | rfl | rfl <;> cases w1 <;> cases w2 <;> cases w3 <;> cases w4 <;> rfl
    · rw [if_neg c6, decide_eq_false c6]
      rcases hk with rfl | rfl | rfl | rfl | rfl | rfl | rfl | rfl | rfl <;> cases w1 <;> cases w2 <;> cases w3 <;> rfl
  · simp only [if_neg c5]
    rw [decide_eq_false c5]
    rcases hk with rfl | rfl | rfl | rfl | rfl | rfl | rfl | rfl | rfl <;> cases w1 <;> cases w2 <;> cases w3 <;> rfl
theorem badI_iff (L : List tyI.I) (C : List tyC.I) (n : Int) (j : Nat) : badI L C n j ↔ rightK (insKind ((tyI.elem (L.getD j tyI.zero)).cells.getD 0 undef).toI) ((tyI.elem (L.getD j tyI.zero)).cells.getD 1 undef).toI (C.map tyC.elem) (((L.map tyI.elem).length : Nat) : Int) n = false := by
  unfold badI
  obtain ⟨⟨x0, x1⟩, hx⟩ : ∃ x : tyI.I, L.getD j tyI.zero = x := ⟨_, rfl⟩
  rw [hx]
  exact Iff.rfl
theorem con73 (L : List tyI.I) (C : List tyC.I) (n : Int) (hl : L.length < 1000000000000000) (h : H) : Con E0 225 [encL tyI L, encL tyC C, .int .i64 n] h (.tup [.int .i64 (checkR L C n).1, .int .i64 (checkR L C n).2]) h := by
  have hn : noRefs [encL tyI L, encL tyC C, .int .i64 n] = true := by simp only [noRefs, encL_noRef, Bool.and_true, Bool.true_and]; rfl
  have hlen : (L.map tyI.elem).length = L.length := by simp
  have fin : ∀ {K : Known} {v w : Int}, KOK E0 87 [] (bodyOf Tryz.f225) K → (runV (XN 225 [15, 19, 23, 38, 42, 50, 56, 65, 69, 74, 78, 85]) K Tryz.f225 (bodyOf Tryz.f225) [encL tyI L, encL tyC C, .int .i64 n]).run = .ok (.tup [.int .i64 v, .int .i64 w]) → Con E0 225 [encL tyI L, encL tyC C, .int .i64 n] h (.tup [.int .i64 v, .int .i64 w]) h := fun hk hr =>
    Con.pureV (X := XN 225 [15, 19, 23, 38, 42, 50, 56, 65, 69, 74, 78, 85]) g0 noG0 (noCalls fun _ _ _ => rfl) (fn := Tryz.f225) Tryz.func225 (c := bodyOf Tryz.f225) rfl rfl (args := [encL tyI L, encL tyC C, .int .i64 n]) hk hn hr (Le.refl _) rfl h
  by_cases hz : L.length = 0 ∨ 512 < L.length
  · have hR : checkR L C n = (0, 6) := if_pos hz
    rw [hR]
    refine fin (kNo_ok (p := [1,1,0,1])) ((congrArg T.run (p73x L C n)).trans ?_)
    rcases hz with h0 | h1
    · exact bT (decide_eq_true (by rw [hlen]; omega)) (bT rfl rfl)
    · exact bF (decide_eq_false (by rw [hlen]; omega)) (bT (decide_eq_true (by rw [hlen]; omega)) rfl)
  · have hT := find_rounds (E := E0) (N := 87) (h0 := []) (c := sub (bodyOf Tryz.f225) [1,1,0,1,0,0]) (p := badI L C n) (n := L.length) (st := st73 L C n) (hm := []) (rt := fun j => [(6, .int .i64 j), (7, .int .i64 12)]) (id := 0)
      (fun j hj hp => by
        have hr := run73 L C n j hj hl ((tyI.elem (L.getD j tyI.zero)).cells.getD 0 undef).toI (insKind ((tyI.elem (L.getD j tyI.zero)).cells.getD 0 undef).toI) ((tyI.elem (L.getD j tyI.zero)).cells.getD 1 undef).toI rfl rfl (insKind_in _)
        rw [badI_iff, Bool.not_eq_false] at hp
        rw [hp] at hr
        exact Tri.seen g0 (calls73 _) KOK.none rfl hr (by
          intro q hq
          simp only [st73, List.mem_cons, List.not_mem_nil, or_false] at hq
          rcases hq with rfl | rfl | rfl | rfl <;> rfl))
      (fun j hj hp => by
        have hr := run73 L C n j hj hl ((tyI.elem (L.getD j tyI.zero)).cells.getD 0 undef).toI (insKind ((tyI.elem (L.getD j tyI.zero)).cells.getD 0 undef).toI) ((tyI.elem (L.getD j tyI.zero)).cells.getD 1 undef).toI rfl rfl (insKind_in _)
        rw [badI_iff] at hp
        rw [hp] at hr
        exact Tri.seen g0 (calls73 _) KOK.none rfl hr (by
          intro q hq
          simp only [List.mem_cons, List.not_mem_nil, or_false] at hq
          rcases hq with rfl | rfl <;> rfl))
      (by
        have ht := p73 L C n 0 (insKind 0) L.length
        rw [lt_no] at ht
        exact Tri.seen g0 (calls73 0) KOK.none rfl (congrArg T.run ht) (by
          intro q hq
          simp only [st73, List.mem_cons, List.not_mem_nil, or_false] at hq
          rcases hq with rfl | rfl | rfl | rfl <;> rfl))
    have hS : (askS
  [AV.lst (2 : Nat) (List.map tyI.elem L) Tl.open_, AV.lst (5 : Nat) (List.map tyC.elem C) Tl.open_,
    AV.int IntKind.i64 n, AV.int IntKind.i64 (0 : Int)]
  [AV.lst (2 : Nat) (List.map tyI.elem L) Tl.open_, AV.lst (5 : Nat) (List.map tyC.elem C) Tl.open_,
    AV.int IntKind.i64 n, AV.int IntKind.i64 (↑(0 : Nat) : Int)]
  [] []) = true := askS_self _ _
    have hR : checkR L C n = match firstI (badI L C n) L.length with
        | some i => ((i : Int), (12 : Int))
        | none => (0, 0) := if_neg hz
    rw [hR]
    have z0 : ¬ L.length = 0 := fun h => hz (.inl h)
    have z1 : ¬ 512 < L.length := fun h => hz (.inr h)
    cases hf : firstI (badI L C n) L.length with
    | some i =>
      rw [hf] at hT
      have hk : KOK E0 87 [] (bodyOf Tryz.f225) (kAt [1,1,0,1] (st73 L C n 0) [] .ret [(6, .int .i64 i), (7, .int .i64 12)] []) := kAt_ok (Tri.block (id := 0) (Tri.loop hT))
      exact fin hk ((congrArg T.run (p73s L C n i)).trans (bF (decide_eq_false (by rw [hlen]; omega)) (bF (decide_eq_false (by rw [hlen]; omega)) (bT hS rfl))))
    | none =>
      rw [hf] at hT
      have hk : KOK E0 87 [] (bodyOf Tryz.f225) (kAt [1,1,0,1] (st73 L C n 0) [] .normal (st73 L C n L.length) []) := kAt_ok (Tri.block (id := 0) (Tri.loop hT))
      exact fin hk ((congrArg T.run (p73n L C n)).trans (bF (decide_eq_false (by rw [hlen]; omega)) (bF (decide_eq_false (by rw [hlen]; omega)) (bT hS rfl))))
end Go.Proofs.YtcocmlmligjjcaaGreatDoor.AM
