/- Part of a proof: what functions of the given program compute, and plain laws of it. -/
import Derived.Test.YtmajndgdfmnchaaT3
import Derived.Test.YtmajndgdfmnchaaProg
import Derived.KernelRfl
namespace Go.Proofs.Ytmajndgdfmnchaa
open Go Go.T Go.Proofs
@[go_sem] theorem aggs : TK.agg .struct = true := by simp [TK.agg]
@[go_sem] theorem aggi {k} : TK.agg (.int k) = false := by simp [TK.agg]
@[go_sem] theorem aggb : TK.agg .bool = false := by simp [TK.agg]
@[go_sem] theorem aggl {e} : TK.agg (.slice e) = false := by simp [TK.agg]
@[go_sem] theorem aggp : TK.agg .pointer = false := by simp [TK.agg]
@[go_sem] theorem aggm {k e} : TK.agg (.map k e) = false := by simp [TK.agg]
theorem mixed : Try.prog.follows .mixedOrders = true := by kernel_rfl
@[go_sem] theorem tk3 : tk Try.prog 3 = TK.int IntKind.i64 := by kernel_rfl
@[go_sem] theorem tin3 : tin Try.prog 3 = true := by kernel_rfl
@[go_sem] theorem tsz3 : tsz Try.prog 3 = 1 := by kernel_rfl
@[go_sem] theorem tby3 : tbytes Try.prog 3 = 8 := by kernel_rfl
@[go_sem] theorem tok3 : tok Try.prog 3 = true := by kernel_rfl
@[go_sem] theorem tz3 : tzero Try.prog 3 = AV.int IntKind.i64 (0) := by kernel_rfl
@[go_sem] theorem tk4 : tk Try.prog 4 = TK.bool := by kernel_rfl
@[go_sem] theorem tin4 : tin Try.prog 4 = true := by kernel_rfl
@[go_sem] theorem tsz4 : tsz Try.prog 4 = 1 := by kernel_rfl
@[go_sem] theorem tok4 : tok Try.prog 4 = true := by kernel_rfl
@[go_sem] theorem tz4 : tzero Try.prog 4 = AV.bool false := by kernel_rfl
@[go_sem] theorem tk22 : tk Try.prog 22 = TK.slice 3 := by kernel_rfl
@[go_sem] theorem tin22 : tin Try.prog 22 = true := by kernel_rfl
@[go_sem] theorem tsz22 : tsz Try.prog 22 = 1 := by kernel_rfl
@[go_sem] theorem tby22 : tbytes Try.prog 22 = 24 := by kernel_rfl
@[go_sem] theorem tok22 : tok Try.prog 22 = true := by kernel_rfl
@[go_sem] theorem tz22 : tzero Try.prog 22 = AV.l true 0 [] := by kernel_rfl
@[go_sem] theorem tk29 : tk Try.prog 29 = TK.array 2 3 := by kernel_rfl
end Go.Proofs.Ytmajndgdfmnchaa
