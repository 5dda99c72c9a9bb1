-- SQUEEZED
-- Written by the program wip/tools/mp.py of this work, which drives the print of the kit; hand texts of this session among it.
import Derived.Test.YtaooangghieljaaGreatDoorQ0
namespace Go.Proofs.YtaooangghieljaaGreatDoor.Q
open Go.RowKit Go.Proofs.HW Go.Proofs.YtaooangghieljaaGreatDoorW.PrintWords Go.Proofs.YtaooangghieljaaGreatDoorW.PrintLast
set_option linter.unusedVariables false
set_option linter.unusedSimpArgs false
theorem eqA57(d:Nat)(w:World)(x0 y0:Int)(x1 y1:Int)(x2 y2:ByteArray)(x3 y3:ByteArray)(x4 y4:ByteArray):
  (Op.equalIn (d+2) 57 (.agg #[.int .i64 x0, .int .i64 x1, .string x2, .string x3, .string x4]) (.agg #[.int .i64 y0, .int .i64 y1, .string y2, .string y3, .string y4])).run Tryz.prog w= .ok (x0==y0&&(x1==y1&&(x2.toList==y2.toList&&(x3.toList==y3.toList&&(x4.toList==y4.toList))))) w:=by
 refine eqA_of Tryz.underlying57 (by kernel_rfl) ?_
 refine eqf_cons (by rfl) (by go_simp;rfl) (by go_simp;rfl) (by go_simp) ?_
 refine eqf_cons (by rfl) (by go_simp;rfl) (by go_simp;rfl) (by go_simp) ?_
 refine eqf_cons (by rfl) (by go_simp;rfl) (by go_simp;rfl) (by go_simp) ?_
 refine eqf_cons (by rfl) (by go_simp;rfl) (by go_simp;rfl) (by go_simp) ?_
 exact eqf_last (by rfl) (by go_simp;rfl) (by go_simp;rfl) (by go_simp)
end Go.Proofs.YtaooangghieljaaGreatDoor.Q
