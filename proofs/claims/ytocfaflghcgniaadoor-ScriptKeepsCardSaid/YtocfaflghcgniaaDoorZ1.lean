/- Part of a proof: what functions of the given program compute, and plain laws of it. -/
import Derived.Test.YtocfaflghcgniaaDoorT3
import Derived.Test.YtocfaflghcgniaaDoorProg
import Derived.KernelRfl
namespace Go.Proofs.YtocfaflghcgniaaDoor
open Go Go.T Go.Proofs
@[go_sem] theorem aggs : TK.agg .struct = true := by simp [TK.agg]
@[go_sem] theorem aggi {k} : TK.agg (.int k) = false := by simp [TK.agg]
@[go_sem] theorem aggt : TK.agg .string = false := by simp [TK.agg]
@[go_sem] theorem aggl {e} : TK.agg (.slice e) = false := by simp [TK.agg]
def I (n : Int) : AV := .int .i64 n
theorem I_eq {n : Int} : I n = .int .i64 n := by simp [I]
theorem I_cells {n : Int} : (I n).cells = [.int .i64 n] := by simp [I, AV.cells]
theorem mixed : Tryd.prog.follows .mixedOrders = true := by kernel_rfl
@[go_sem] theorem tk3 : tk Tryd.prog 3 = TK.int IntKind.i64 := by kernel_rfl
@[go_sem] theorem tin3 : tin Tryd.prog 3 = true := by kernel_rfl
@[go_sem] theorem tsz3 : tsz Tryd.prog 3 = 1 := by kernel_rfl
@[go_sem] theorem nc3 {cs} : newC Tryd.prog 3 cs = .blk cs := by kernel_rfl
@[go_sem] theorem tok3 : tok Tryd.prog 3 = true := by kernel_rfl
@[go_sem] theorem tz3 : tzero Tryd.prog 3 = AV.int IntKind.i64 (0) := by kernel_rfl
@[go_sem] theorem tsz5 : tsz Tryd.prog 5 = 1 := by kernel_rfl
@[go_sem] theorem tok5 : tok Tryd.prog 5 = true := by kernel_rfl
@[go_sem] theorem tk9 : tk Tryd.prog 9 = TK.string := by kernel_rfl
@[go_sem] theorem tin9 : tin Tryd.prog 9 = true := by kernel_rfl
@[go_sem] theorem tsz9 : tsz Tryd.prog 9 = 1 := by kernel_rfl
@[go_sem] theorem tby9 : tbytes Tryd.prog 9 = 16 := by kernel_rfl
@[go_sem] theorem tok9 : tok Tryd.prog 9 = true := by kernel_rfl
@[go_sem] theorem tk23 : tk Tryd.prog 23 = TK.slice 36 := by kernel_rfl
@[go_sem] theorem tin23 : tin Tryd.prog 23 = true := by kernel_rfl
@[go_sem] theorem tsz23 : tsz Tryd.prog 23 = 1 := by kernel_rfl
@[go_sem] theorem nc23 {cs} : newC Tryd.prog 23 cs = .blk cs := by kernel_rfl
@[go_sem] theorem tok23 : tok Tryd.prog 23 = true := by kernel_rfl
@[go_sem] theorem tz23 : tzero Tryd.prog 23 = AV.l true 0 [] := by kernel_rfl
@[go_sem] theorem tk24 : tk Tryd.prog 24 = TK.int IntKind.i64 := by kernel_rfl
@[go_sem] theorem tin24 : tin Tryd.prog 24 = true := by kernel_rfl
@[go_sem] theorem tsz24 : tsz Tryd.prog 24 = 1 := by kernel_rfl
@[go_sem] theorem nc24 {cs} : newC Tryd.prog 24 cs = .blk cs := by kernel_rfl
@[go_sem] theorem tok24 : tok Tryd.prog 24 = true := by kernel_rfl
@[go_sem] theorem tz24 : tzero Tryd.prog 24 = AV.int IntKind.i64 (0) := by kernel_rfl
@[go_sem] theorem tk33 : tk Tryd.prog 33 = TK.slice 3 := by kernel_rfl
@[go_sem] theorem tk36 : tk Tryd.prog 36 = TK.struct := by kernel_rfl
@[go_sem] theorem tin36 : tin Tryd.prog 36 = true := by kernel_rfl
@[go_sem] theorem tsz36 : tsz Tryd.prog 36 = 5 := by kernel_rfl
@[go_sem] theorem tby36 : tbytes Tryd.prog 36 = 40 := by kernel_rfl
@[go_sem] theorem nc36 {cs} : newC Tryd.prog 36 cs = .blk cs := by kernel_rfl
@[go_sem] theorem tok36 : tok Tryd.prog 36 = true := by kernel_rfl
@[go_sem] theorem tz36 : tzero Tryd.prog 36 = AV.agg   [AV.int IntKind.i64 (0), AV.int IntKind.i64 (0), AV.int IntKind.i64 (0),     AV.int IntKind.i64 (0), AV.int IntKind.i64 (0)] := by kernel_rfl
@[go_sem] theorem fsin36 : fsIn Tryd.prog 36 = true := by kernel_rfl
@[go_sem] theorem fof36_0 : fof Tryd.prog 36 0 = some (0, 1, 3) := by kernel_rfl
@[go_sem] theorem fof36_1 : fof Tryd.prog 36 1 = some (1, 1, 3) := by kernel_rfl
@[go_sem] theorem fof36_2 : fof Tryd.prog 36 2 = some (2, 1, 3) := by kernel_rfl
@[go_sem] theorem fof36_3 : fof Tryd.prog 36 3 = some (3, 1, 3) := by kernel_rfl
@[go_sem] theorem fof36_4 : fof Tryd.prog 36 4 = some (4, 1, 3) := by kernel_rfl
@[go_sem] theorem seq36 : structEq Tryd.prog 36 = true := by kernel_rfl
@[go_sem] theorem tk37 : tk Tryd.prog 37 = TK.slice 9 := by kernel_rfl
@[go_sem] theorem tin37 : tin Tryd.prog 37 = true := by kernel_rfl
@[go_sem] theorem tsz37 : tsz Tryd.prog 37 = 1 := by kernel_rfl
@[go_sem] theorem nc37 {cs} : newC Tryd.prog 37 cs = .blk cs := by kernel_rfl
@[go_sem] theorem tok37 : tok Tryd.prog 37 = true := by kernel_rfl
@[go_sem] theorem tz37 : tzero Tryd.prog 37 = AV.l true 0 [] := by kernel_rfl
@[go_sem] theorem tk47 : tk Tryd.prog 47 = TK.slice 5 := by kernel_rfl
@[go_sem] theorem tin47 : tin Tryd.prog 47 = true := by kernel_rfl
@[go_sem] theorem tsz47 : tsz Tryd.prog 47 = 1 := by kernel_rfl
@[go_sem] theorem nc49 {cs} : newC Tryd.prog 49 cs = .bt 49 cs := by kernel_rfl
@[go_sem] theorem tok49 : tok Tryd.prog 49 = true := by kernel_rfl
@[go_sem] theorem tz49 : tzero Tryd.prog 49 = AV.agg [AV.nilp, AV.l true 0 []] := by kernel_rfl
@[go_sem] theorem fof49_1 : fof Tryd.prog 49 1 = some (1, 1, 47) := by kernel_rfl
@[go_sem] theorem hb9 : hasBody Tryd.prog 9 = true := by kernel_rfl
@[go_sem] theorem hb10 : hasBody Tryd.prog 10 = true := by kernel_rfl
@[go_sem] theorem hb12 : hasBody Tryd.prog 12 = true := by kernel_rfl
@[go_sem] theorem hb13 : hasBody Tryd.prog 13 = true := by kernel_rfl
@[go_sem] theorem hb15 : hasBody Tryd.prog 15 = true := by kernel_rfl
@[go_sem] theorem hb16 : hasBody Tryd.prog 16 = true := by kernel_rfl
@[go_sem] theorem hb18 : hasBody Tryd.prog 18 = true := by kernel_rfl
@[go_sem] theorem hb19 : hasBody Tryd.prog 19 = true := by kernel_rfl
@[go_sem] theorem hb20 : hasBody Tryd.prog 20 = true := by kernel_rfl
@[go_sem] theorem hb21 : hasBody Tryd.prog 21 = true := by kernel_rfl
@[go_sem] theorem hb22 : hasBody Tryd.prog 22 = true := by kernel_rfl
@[go_sem] theorem hb23 : hasBody Tryd.prog 23 = true := by kernel_rfl
@[go_sem] theorem hb24 : hasBody Tryd.prog 24 = true := by kernel_rfl
@[go_sem] theorem hb28 : hasBody Tryd.prog 28 = true := by kernel_rfl
@[go_sem] theorem hb29 : hasBody Tryd.prog 29 = true := by kernel_rfl
@[go_sem] theorem hb30 : hasBody Tryd.prog 30 = true := by kernel_rfl
@[go_sem] theorem hb33 : hasBody Tryd.prog 33 = true := by kernel_rfl
@[go_sem] theorem hb35 : hasBody Tryd.prog 35 = true := by kernel_rfl
@[go_sem] theorem hb37 : hasBody Tryd.prog 37 = true := by kernel_rfl
@[go_sem] theorem hb38 : hasBody Tryd.prog 38 = true := by kernel_rfl
@[go_sem] theorem hb39 : hasBody Tryd.prog 39 = true := by kernel_rfl
@[go_sem] theorem hb40 : hasBody Tryd.prog 40 = true := by kernel_rfl
@[go_sem] theorem res7 : Tryd.f7.results = #[.tmp 4] := by kernel_rfl
@[go_sem] theorem res9 : Tryd.f9.results = #[.tmp 0] := by kernel_rfl
@[go_sem] theorem res10 : Tryd.f10.results = #[.cell 2 23, .cell 3 3, .cell 4 24] := by kernel_rfl
@[go_sem] theorem ntm10 : ntm Tryd.prog 10 = 51 := by kernel_rfl
@[go_sem] theorem res12 : Tryd.f12.results = #[.tmp 4] := by kernel_rfl
@[go_sem] theorem res13 : Tryd.f13.results = #[.tmp 2, .tmp 3] := by kernel_rfl
@[go_sem] theorem res15 : Tryd.f15.results = #[.tmp 4] := by kernel_rfl
@[go_sem] theorem res16 : Tryd.f16.results = #[.cell 2 36, .tmp 3] := by kernel_rfl
@[go_sem] theorem res18 : Tryd.f18.results = #[.tmp 4, .tmp 5] := by kernel_rfl
@[go_sem] theorem res19 : Tryd.f19.results = #[.tmp 0] := by kernel_rfl
@[go_sem] theorem res20 : Tryd.f20.results = #[.tmp 2] := by kernel_rfl
@[go_sem] theorem res21 : Tryd.f21.results = #[.tmp 4] := by kernel_rfl
@[go_sem] theorem res23 : Tryd.f23.results = #[.tmp 4] := by kernel_rfl
@[go_sem] theorem res28 : Tryd.f28.results = #[.tmp 6] := by kernel_rfl
@[go_sem] theorem res29 : Tryd.f29.results = #[.tmp 4] := by kernel_rfl
@[go_sem] theorem res30 : Tryd.f30.results = #[.tmp 2, .tmp 3] := by kernel_rfl
@[go_sem] theorem res35 : Tryd.f35.results = #[] := by kernel_rfl
end Go.Proofs.YtocfaflghcgniaaDoor
