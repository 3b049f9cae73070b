/- Part of a proof: what functions of the given program compute, and plain laws of it. -/
import Derived.Test.YtmajndgdfmnchaaT3
import Derived.Test.YtmajndgdfmnchaaProg
import Derived.KernelRfl
namespace Go.Proofs.Ytmajndgdfmnchaa
open Go Go.T Go.Proofs
@[go_sem] theorem aggs : TK.agg .struct = true := by simp [TK.agg]
@[go_sem] theorem agga {n e} : TK.agg (.array n e) = true := by simp [TK.agg]
@[go_sem] theorem aggi {k} : TK.agg (.int k) = false := by simp [TK.agg]
@[go_sem] theorem aggb : TK.agg .bool = false := by simp [TK.agg]
@[go_sem] theorem aggl {e} : TK.agg (.slice e) = false := by simp [TK.agg]
@[go_sem] theorem aggp : TK.agg .pointer = false := by simp [TK.agg]
@[go_sem] theorem aggm {k e} : TK.agg (.map k e) = false := by simp [TK.agg]
theorem mixed : Try.prog.follows .mixedOrders = true := by kernel_rfl
@[go_sem] theorem tk3 : tk Try.prog 3 = TK.int IntKind.i64 := by kernel_rfl
@[go_sem] theorem tin3 : tin Try.prog 3 = true := by kernel_rfl
@[go_sem] theorem tsz3 : tsz Try.prog 3 = 1 := by kernel_rfl
@[go_sem] theorem tby3 : tbytes Try.prog 3 = 8 := by kernel_rfl
@[go_sem] theorem tok3 : tok Try.prog 3 = true := by kernel_rfl
@[go_sem] theorem tz3 : tzero Try.prog 3 = AV.int IntKind.i64 (0) := by kernel_rfl
@[go_sem] theorem tk4 : tk Try.prog 4 = TK.bool := by kernel_rfl
@[go_sem] theorem tin4 : tin Try.prog 4 = true := by kernel_rfl
@[go_sem] theorem tsz4 : tsz Try.prog 4 = 1 := by kernel_rfl
@[go_sem] theorem tok4 : tok Try.prog 4 = true := by kernel_rfl
@[go_sem] theorem tz4 : tzero Try.prog 4 = AV.bool false := by kernel_rfl
@[go_sem] theorem tk22 : tk Try.prog 22 = TK.slice 3 := by kernel_rfl
@[go_sem] theorem tk23 : tk Try.prog 23 = TK.slice 37 := by kernel_rfl
@[go_sem] theorem tin23 : tin Try.prog 23 = true := by kernel_rfl
@[go_sem] theorem tsz23 : tsz Try.prog 23 = 1 := by kernel_rfl
@[go_sem] theorem tk29 : tk Try.prog 29 = TK.array 2 3 := by kernel_rfl
@[go_sem] theorem tin29 : tin Try.prog 29 = true := by kernel_rfl
@[go_sem] theorem tsz29 : tsz Try.prog 29 = 2 := by kernel_rfl
@[go_sem] theorem tby29 : tbytes Try.prog 29 = 16 := by kernel_rfl
@[go_sem] theorem tok29 : tok Try.prog 29 = true := by kernel_rfl
@[go_sem] theorem tz29 : tzero Try.prog 29 = AV.agg [AV.int IntKind.i64 (0), AV.int IntKind.i64 (0)] := by kernel_rfl
@[go_sem] theorem seq29 : structEq Try.prog 29 = true := by kernel_rfl
@[go_sem] theorem tk30 : tk Try.prog 30 = TK.slice 29 := by kernel_rfl
@[go_sem] theorem tin30 : tin Try.prog 30 = true := by kernel_rfl
@[go_sem] theorem tsz30 : tsz Try.prog 30 = 1 := by kernel_rfl
@[go_sem] theorem tok30 : tok Try.prog 30 = true := by kernel_rfl
@[go_sem] theorem tz30 : tzero Try.prog 30 = AV.l true 0 [] := by kernel_rfl
@[go_sem] theorem tk33 : tk Try.prog 33 = TK.func := by kernel_rfl
@[go_sem] theorem tk37 : tk Try.prog 37 = TK.struct := by kernel_rfl
@[go_sem] theorem tin37 : tin Try.prog 37 = true := by kernel_rfl
@[go_sem] theorem tsz37 : tsz Try.prog 37 = 6 := by kernel_rfl
@[go_sem] theorem tby37 : tbytes Try.prog 37 = 48 := by kernel_rfl
@[go_sem] theorem tok37 : tok Try.prog 37 = true := by kernel_rfl
@[go_sem] theorem tz37 : tzero Try.prog 37 = AV.agg   [AV.int IntKind.i64 (0), AV.int IntKind.i64 (0), AV.int IntKind.i64 (0),     AV.int IntKind.i64 (0), AV.int IntKind.i64 (0), AV.int IntKind.i64 (0)] := by kernel_rfl
@[go_sem] theorem fsin37 : fsIn Try.prog 37 = true := by kernel_rfl
@[go_sem] theorem fof37_0 : fof Try.prog 37 0 = some (0, 1, 3) := by kernel_rfl
@[go_sem] theorem fof37_1 : fof Try.prog 37 1 = some (1, 1, 3) := by kernel_rfl
@[go_sem] theorem fof37_2 : fof Try.prog 37 2 = some (2, 1, 3) := by kernel_rfl
@[go_sem] theorem fof37_3 : fof Try.prog 37 3 = some (3, 1, 3) := by kernel_rfl
@[go_sem] theorem fof37_4 : fof Try.prog 37 4 = some (4, 1, 3) := by kernel_rfl
@[go_sem] theorem fof37_5 : fof Try.prog 37 5 = some (5, 1, 3) := by kernel_rfl
@[go_sem] theorem seq37 : structEq Try.prog 37 = true := by kernel_rfl
@[go_sem] theorem tk75 : tk Try.prog 75 = TK.slice 76 := by kernel_rfl
@[go_sem] theorem tk76 : tk Try.prog 76 = TK.pointer := by kernel_rfl
@[go_sem] theorem tin76 : tin Try.prog 76 = true := by kernel_rfl
@[go_sem] theorem tsz76 : tsz Try.prog 76 = 1 := by kernel_rfl
@[go_sem] theorem tby76 : tbytes Try.prog 76 = 8 := by kernel_rfl
@[go_sem] theorem tok76 : tok Try.prog 76 = true := by kernel_rfl
@[go_sem] theorem tk83 : tk Try.prog 83 = TK.struct := by kernel_rfl
@[go_sem] theorem tin83 : tin Try.prog 83 = true := by kernel_rfl
@[go_sem] theorem tsz83 : tsz Try.prog 83 = 2 := by kernel_rfl
@[go_sem] theorem tok83 : tok Try.prog 83 = true := by kernel_rfl
@[go_sem] theorem tz83 : tzero Try.prog 83 = AV.agg [AV.int IntKind.i64 (0), AV.int IntKind.i64 (0)] := by kernel_rfl
@[go_sem] theorem fsin83 : fsIn Try.prog 83 = true := by kernel_rfl
@[go_sem] theorem fof83_0 : fof Try.prog 83 0 = some (0, 1, 3) := by kernel_rfl
@[go_sem] theorem fof83_1 : fof Try.prog 83 1 = some (1, 1, 3) := by kernel_rfl
@[go_sem] theorem seq83 : structEq Try.prog 83 = true := by kernel_rfl
@[go_sem] theorem kt83 : keyTy Try.prog 83 = true := by kernel_rfl
@[go_sem] theorem tk131 : tk Try.prog 131 = TK.map 83 83 := by kernel_rfl
@[go_sem] theorem tin131 : tin Try.prog 131 = true := by kernel_rfl
@[go_sem] theorem tsz131 : tsz Try.prog 131 = 1 := by kernel_rfl
@[go_sem] theorem tk132 : tk Try.prog 132 = TK.array 32 3 := by kernel_rfl
@[go_sem] theorem tk134 : tk Try.prog 134 = TK.struct := by kernel_rfl
@[go_sem] theorem tok134 : tok Try.prog 134 = true := by kernel_rfl
@[go_sem] theorem tz134 : tzero Try.prog 134 = AV.agg   [AV.int IntKind.i64 (0), AV.int IntKind.i64 (0), AV.int IntKind.i64 (0),     AV.int IntKind.i64 (0), AV.int IntKind.i64 (0), AV.int IntKind.i64 (0),     AV.int IntKind.i64 (0), AV.int IntKind.i64 (0), AV.int IntKind.i64 (0),     AV.int IntKind.i64 (0), AV.int IntKind.i64 (0), AV.int IntKind.i64 (0),     AV.int IntKind.i64 (0), AV.int IntKind.i64 (0), AV.int IntKind.i64 (0),     AV.int IntKind.i64 (0), AV.int IntKind.i64 (0), AV.int IntKind.i64 (0),     AV.int IntKind.i64 (0), AV.int IntKind.i64 (0), AV.int IntKind.i64 (0),     AV.int IntKind.i64 (0), AV.int IntKind.i64 (0), AV.int IntKind.i64 (0),     AV.int IntKind.i64 (0), AV.int IntKind.i64 (0), AV.int IntKind.i64 (0),     AV.int IntKind.i64 (0), AV.int IntKind.i64 (0), AV.int IntKind.i64 (0),     AV.int IntKind.i64 (0), AV.int IntKind.i64 (0), AV.nilm, AV.nilm,     AV.int IntKind.i64 (0), AV.int IntKind.i64 (0), AV.bool false, AV.int IntKind.i64 (0)] := by kernel_rfl
@[go_sem] theorem fsin134 : fsIn Try.prog 134 = true := by kernel_rfl
@[go_sem] theorem fof134_0 : fof Try.prog 134 0 = some (0, 32, 132) := by kernel_rfl
@[go_sem] theorem fof134_1 : fof Try.prog 134 1 = some (32, 1, 131) := by kernel_rfl
@[go_sem] theorem fof134_2 : fof Try.prog 134 2 = some (33, 1, 131) := by kernel_rfl
@[go_sem] theorem fof134_3 : fof Try.prog 134 3 = some (34, 2, 83) := by kernel_rfl
@[go_sem] theorem fof134_4 : fof Try.prog 134 4 = some (36, 1, 4) := by kernel_rfl
@[go_sem] theorem fof134_5 : fof Try.prog 134 5 = some (37, 1, 3) := by kernel_rfl
@[go_sem] theorem hb12 : hasBody Try.prog 12 = true := by kernel_rfl
@[go_sem] theorem hb13 : hasBody Try.prog 13 = true := by kernel_rfl
@[go_sem] theorem hb15 : hasBody Try.prog 15 = true := by kernel_rfl
@[go_sem] theorem hb16 : hasBody Try.prog 16 = true := by kernel_rfl
@[go_sem] theorem hb17 : hasBody Try.prog 17 = true := by kernel_rfl
@[go_sem] theorem hb37 : hasBody Try.prog 37 = true := by kernel_rfl
@[go_sem] theorem hb38 : hasBody Try.prog 38 = true := by kernel_rfl
@[go_sem] theorem hb40 : hasBody Try.prog 40 = true := by kernel_rfl
@[go_sem] theorem hb41 : hasBody Try.prog 41 = true := by kernel_rfl
@[go_sem] theorem hb42 : hasBody Try.prog 42 = true := by kernel_rfl
@[go_sem] theorem hb43 : hasBody Try.prog 43 = true := by kernel_rfl
@[go_sem] theorem hb70 : hasBody Try.prog 70 = true := by kernel_rfl
@[go_sem] theorem ntm6 : ntm Try.prog 6 = 157 := by kernel_rfl
end Go.Proofs.Ytmajndgdfmnchaa
