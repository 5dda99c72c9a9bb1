/- Layer 3: a constant that came in is opened; the law of bytes that end too early comes to true. -/
import Derived.Test.YtlnfaeegmcihfaaDoorQ26
import Derived.Test.YtlnfaeegmcihfaaDoorQP3d
import Derived.Test.YtlnfaeegmcihfaaDoorHR
import Derived.OpenShut
set_option linter.unusedVariables false
namespace Go.Proofs.YtlnfaeegmcihfaaDoor.W3
open Go.RowKit Go.Proofs.YtlnfaeegmcihfaaDoorW.PrintWords Go.Proofs.YtlnfaeegmcihfaaDoor.Q Go.Proofs.PL

def fits (y : S40) : Prop := ((Lit.int .i64 y.f0).wf = true) ∧ ((Lit.int .i64 y.f1).wf = true) ∧ y.f2.size ≤ 140737488351232 ∧ y.f3.size ≤ 140737488351232 ∧ y.f4.size ≤ 140737488351232
theorem rd_const : HR.RdTo Tryd.prog 40 k40 fits :=
  HR.rd_struct (k := Kd.pair (Kd.int .i64) (Kd.pair (Kd.int .i64) (Kd.pair Kd.string (Kd.pair Kd.string Kd.string))))
    (F := fun p => ((Lit.int .i64 p.1).wf = true) ∧ ((Lit.int .i64 p.2.1).wf = true) ∧ p.2.2.1.size ≤ 140737488351232 ∧ p.2.2.2.1.size ≤ 140737488351232 ∧ p.2.2.2.2.size ≤ 140737488351232)
    (fun x : S40 => (x.f0, x.f1, x.f2, x.f3, x.f4)) (fun p => ⟨p.1, p.2.1, p.2.2.1, p.2.2.2.1, p.2.2.2.2⟩) (fun _ => rfl) Tryd.underlying40 (by kernel_rfl)
    (HR.rd_next (k := Kd.int .i64) (F := fun n => (Lit.int .i64 n).wf = true) (G := fun p : Int × ByteArray × ByteArray × ByteArray => ((Lit.int .i64 p.1).wf = true) ∧ p.2.1.size ≤ 140737488351232 ∧ p.2.2.1.size ≤ 140737488351232 ∧ p.2.2.2.size ≤ 140737488351232) (by rfl) (by kernel_rfl) (HR.rd_int Tryd.underlying3)
      (HR.rd_next (k := Kd.int .i64) (F := fun n => (Lit.int .i64 n).wf = true) (G := fun p : ByteArray × ByteArray × ByteArray => p.1.size ≤ 140737488351232 ∧ p.2.1.size ≤ 140737488351232 ∧ p.2.2.size ≤ 140737488351232) (by rfl) (by kernel_rfl) (HR.rd_int Tryd.underlying2)
        (HR.rd_next (k := Kd.string) (F := fun s => s.size ≤ 140737488351232) (G := fun p : ByteArray × ByteArray => p.1.size ≤ 140737488351232 ∧ p.2.size ≤ 140737488351232) (by rfl) (by kernel_rfl) (HR.rd_string Tryd.underlying9)
          (HR.rd_next (k := Kd.string) (F := fun s => s.size ≤ 140737488351232) (G := fun s : ByteArray => s.size ≤ 140737488351232) (by rfl) (by kernel_rfl) (HR.rd_string Tryd.underlying9)
            (HR.rd_last (by rfl) (by kernel_rfl) (HR.rd_string Tryd.underlying9))))))
theorem wf_i64 {n : Int} (h : (Lit.int .i64 n).wf = true) : i64 n := by
  exact bounds_i64 h
section
variable {H : Type} {enc : TypeId × Value → H} {b base : Nat} {sp : Nat → Bool} {held : Bool} {r : Reach} {d : DataW H} {ps : List MemPlace}
set_option maxRecDepth 100000 in
theorem const_open {W : World} {v : Value} (hv : Value.okWide Tryd.prog W r b 40 v) (h : DataW.Trod enc Tryd.prog W base sp held 40 v d ps) (hw : ∀ n ∈ d.weights Tryd.prog 40, n ≤ reachBytes) :
    ∃ (kind n : Int) (s t u : List UInt8), v = .agg #[.int .i64 kind, .int .i64 n, .string (mk s), .string (mk t), .string (mk u)] ∧ i64 kind ∧ i64 n ∧ s.length ≤ 140737488351232 ∧ t.length ≤ 140737488351232 ∧ u.length ≤ 140737488351232 := by
  obtain ⟨cs, y, rfl, hk, h0, h1, h2, h3, h4⟩ := HR.open_agg Tryd.underlying40 rd_const hv h hw
  have he := k40_open hk
  obtain ⟨kind, n, s, t, u⟩ := y
  obtain ⟨s, rfl⟩ := ex_mk s
  obtain ⟨t, rfl⟩ := ex_mk t
  obtain ⟨u, rfl⟩ := ex_mk u
  simp only [size_mk] at h2 h3 h4
  refine ⟨kind, n, s, t, u, ?_, wf_i64 h0, wf_i64 h1, h2, h3, h4⟩
  congr 1
  exact Array.toList_inj.1 he
set_option maxRecDepth 100000 in
theorem short (W : World) (v : Value) (hv : Value.okWide Tryd.prog W r b 40 v) (h : DataW.Trod enc Tryd.prog W base sp held 40 v d ps) (hw : ∀ n ∈ d.weights Tryd.prog 40, n ≤ reachBytes) :
    Calls Tryd.prog 10 #[v] W fun e w' => e = .returned (.bool true) ∧ Below W.heap.size W w' := by
  obtain ⟨kind, n, s, t, u, rfl, _, hn, hs, ht, hu⟩ := const_open hv h hw
  obtain ⟨k, h⟩ := (poolShort kind n s t u hn (by omega) (by omega) (by omega)).rounds
  exact hornbooklaw03_PoolShort.calls k kind n (mk s) (mk t) (mk u) true W h
end
end Go.Proofs.YtlnfaeegmcihfaaDoor.W3
