/- Three laws of layer 2: the calls come to true. -/
import Derived.Test.YtlnfaeegmcihfaaDoorG16
import Derived.Test.YtlnfaeegmcihfaaDoorG17
import Derived.Test.YtlnfaeegmcihfaaDoorG18
import Derived.Test.YtlnfaeegmcihfaaDoorP2f
set_option linter.unusedVariables false
namespace Go.Proofs.YtlnfaeegmcihfaaDoor.W2
open Go.RowKit Go.Proofs.YtlnfaeegmcihfaaDoorW.PrintWords Go.Proofs.YtlnfaeegmcihfaaDoor.G Go.Proofs.PL

theorem rights (W : World) (s : ByteArray) (hs : s.size ≤ 140737488351232) : Calls Tryd.prog 6 #[.string s] W fun e w' => e = .returned (.bool true) ∧ Below W.heap.size W w' := by
  obtain ⟨l, rfl⟩ := ex_mk s
  rw [size_mk] at hs
  obtain ⟨k, h⟩ := (descRights l hs).rounds
  exact hornbooklaw02_DescRights.calls k (mk l) true W h
theorem arrays (W : World) (s : ByteArray) (hs : s.size ≤ 140737488351232) : Calls Tryd.prog 8 #[.string s] W fun e w' => e = .returned (.bool true) ∧ Below W.heap.size W w' := by
  obtain ⟨l, rfl⟩ := ex_mk s
  rw [size_mk] at hs
  obtain ⟨k, h⟩ := (descArrays l hs).rounds
  exact hornbooklaw02_DescArrays.calls k (mk l) true W h
theorem shown (W : World) (s : ByteArray) (hs : s.size ≤ 140737488351232) (t : ByteArray) (ht : t.size ≤ 140737488351232) : Calls Tryd.prog 5 #[.string s, .string t] W fun e w' => e = .returned (.bool true) ∧ Below W.heap.size W w' := by
  obtain ⟨l, rfl⟩ := ex_mk s
  obtain ⟨m, rfl⟩ := ex_mk t
  rw [size_mk] at hs ht
  obtain ⟨k, h⟩ := (descShown l m hs ht).rounds
  exact hornbooklaw02_DescShown.calls k (mk l) (mk m) true W h
end Go.Proofs.YtlnfaeegmcihfaaDoor.W2
