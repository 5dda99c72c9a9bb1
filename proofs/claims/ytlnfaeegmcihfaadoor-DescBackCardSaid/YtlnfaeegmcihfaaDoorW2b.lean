/- Two laws of layer 2, on what a method gives and takes: the calls come to true. -/
import Derived.Test.YtlnfaeegmcihfaaDoorG19
import Derived.Test.YtlnfaeegmcihfaaDoorG22
import Derived.Test.YtlnfaeegmcihfaaDoorP2g
import Derived.Test.YtlnfaeegmcihfaaDoorHR
set_option linter.unusedVariables false
namespace Go.Proofs.YtlnfaeegmcihfaaDoor.W2
open Go.RowKit Go.Proofs.YtlnfaeegmcihfaaDoorW.PrintWords Go.Proofs.YtlnfaeegmcihfaaDoor.G Go.Proofs.PL

theorem cells_str : Tryd.prog.cellsOf 9 = 1 := by kernel_rfl
theorem bytes_str : Tryd.prog.bytesOf 9 = 16 := by kernel_rfl
theorem rd_strs : HR.RdTo Tryd.prog 22 (Kd.slice 9 Kd.string) (fun xs => xs.length * 16 ≤ 140737488351232 ∧ ∀ x ∈ xs, x.size ≤ 140737488351232) :=
  HR.rd_slice (P := Tryd.prog) (t := 22) (e := 9) (e' := 9) (k := Kd.string) (F := fun s => s.size ≤ 140737488351232) (B := 16) Tryd.underlying22 cells_str bytes_str (HR.rd_string Tryd.underlying9)
section
variable {H : Type} {enc : TypeId × Value → H} {b base : Nat} {sp : Nat → Bool} {held : Bool} {r : Reach} {d : DataW H} {ps : List MemPlace}
set_option maxRecDepth 100000 in
theorem texts_open {W : World} {v : Value} (hv : Value.okWide Tryd.prog W r b 22 v) (h : DataW.Trod enc Tryd.prog W base sp held 22 v d ps) (hw : ∀ n ∈ d.weights Tryd.prog 22, n ≤ reachBytes) :
    ∃ A c ls, v = .slice A (mks ls).length c ∧ (mks ls).length ≤ c ∧ Kd.C Kd.string W A (mks ls).length (mks ls) ∧ ls.length * 16 ≤ 140737488351232 ∧ ∀ t ∈ ls, t.length ≤ 140737488351232 := by
  obtain ⟨A, c, xs, rfl, hl, hC, hF, hE⟩ := HR.open_row (e' := 9) Tryd.underlying22 rd_strs hv h hw
  obtain ⟨ls, rfl⟩ := ex_mks xs
  refine ⟨A, c, ls, rfl, hl, hC, by simpa using hF, fun t ht => ?_⟩
  have := hE (mk t) (by unfold mks; exact List.mem_map_of_mem ht)
  simpa using this
set_option maxRecDepth 100000 in
theorem sigs (W : World) (g : ByteArray) (hg : g.size ≤ 140737488351232) (v : Value) (hv : Value.okWide Tryd.prog W r b 22 v) (h : DataW.Trod enc Tryd.prog W base sp held 22 v d ps) (hw : ∀ n ∈ d.weights Tryd.prog 22, n ≤ reachBytes)
    (s : ByteArray) (hs : s.size ≤ 140737488351232) : Calls Tryd.prog 3 #[.string g, v, .string s] W fun e w' => e = .returned (.bool true) ∧ Below W.heap.size W w' := by
  obtain ⟨A, c, ls, rfl, hl, hC, _, hE⟩ := texts_open hv h hw
  obtain ⟨g, rfl⟩ := ex_mk g
  obtain ⟨s, rfl⟩ := ex_mk s
  rw [size_mk] at hg hs
  obtain ⟨k, h⟩ := (descSigs g ls s (by omega) (fun t ht => by have := hE t ht; omega) (by omega)).rounds
  exact hornbooklaw02_DescSigs.calls k (mk g) A c (mks ls) (mk s) true W hC hl h
set_option maxRecDepth 100000 in
theorem back (W : World) (g : ByteArray) (hg : g.size ≤ 140737488351232) (v : Value) (hv : Value.okWide Tryd.prog W r b 22 v) (h : DataW.Trod enc Tryd.prog W base sp held 22 v d ps) (hw : ∀ n ∈ d.weights Tryd.prog 22, n ≤ reachBytes)
    (s : ByteArray) (hs : s.size ≤ 140737488351232) : Calls Tryd.prog 4 #[.string g, v, .string s] W fun e w' => e = .returned (.bool true) ∧ Below W.heap.size W w' := by
  obtain ⟨A, c, ls, rfl, hl, hC, _, hE⟩ := texts_open hv h hw
  obtain ⟨g, rfl⟩ := ex_mk g
  obtain ⟨s, rfl⟩ := ex_mk s
  rw [size_mk] at hg hs
  obtain ⟨k, h⟩ := (descBack g ls s (by omega) (fun t ht => by have := hE t ht; omega) (by omega)).rounds
  exact hornbooklaw02_DescBack.calls k (mk g) A c (mks ls) (mk s) true W hC hl h
end
end Go.Proofs.YtlnfaeegmcihfaaDoor.W2
