/- Part of a proof: what functions of the given program compute, and plain laws of it. -/
import Derived.Test.YtmajndgdfmnchaaZ1
namespace Go.Proofs.Ytmajndgdfmnchaa
open Go Go.T Go.Proofs
@[go_sem] theorem tk40 : tk Try.prog 40 = TK.slice 65 := by kernel_rfl
@[go_sem] theorem tin40 : tin Try.prog 40 = true := by kernel_rfl
@[go_sem] theorem tsz40 : tsz Try.prog 40 = 1 := by kernel_rfl
@[go_sem] theorem tk42 : tk Try.prog 42 = TK.pointer := by kernel_rfl
@[go_sem] theorem tin42 : tin Try.prog 42 = true := by kernel_rfl
@[go_sem] theorem tsz42 : tsz Try.prog 42 = 1 := by kernel_rfl
@[go_sem] theorem tk49 : tk Try.prog 49 = TK.slice 54 := by kernel_rfl
@[go_sem] theorem tin49 : tin Try.prog 49 = true := by kernel_rfl
@[go_sem] theorem tsz49 : tsz Try.prog 49 = 1 := by kernel_rfl
@[go_sem] theorem tok49 : tok Try.prog 49 = true := by kernel_rfl
@[go_sem] theorem tz49 : tzero Try.prog 49 = AV.l true 0 [] := by kernel_rfl
@[go_sem] theorem tk54 : tk Try.prog 54 = TK.struct := by kernel_rfl
@[go_sem] theorem tin54 : tin Try.prog 54 = true := by kernel_rfl
@[go_sem] theorem tsz54 : tsz Try.prog 54 = 5 := by kernel_rfl
@[go_sem] theorem tby54 : tbytes Try.prog 54 = 40 := by kernel_rfl
@[go_sem] theorem tok54 : tok Try.prog 54 = true := by kernel_rfl
@[go_sem] theorem tz54 : tzero Try.prog 54 = AV.agg   [AV.int IntKind.i64 (0), AV.int IntKind.i64 (0), AV.int IntKind.i64 (0),     AV.int IntKind.i64 (0), AV.int IntKind.i64 (0)] := by kernel_rfl
@[go_sem] theorem fsin54 : fsIn Try.prog 54 = true := by kernel_rfl
@[go_sem] theorem fof54_0 : fof Try.prog 54 0 = some (0, 1, 3) := by kernel_rfl
@[go_sem] theorem fof54_1 : fof Try.prog 54 1 = some (1, 1, 3) := by kernel_rfl
@[go_sem] theorem fof54_2 : fof Try.prog 54 2 = some (2, 1, 3) := by kernel_rfl
@[go_sem] theorem fof54_3 : fof Try.prog 54 3 = some (3, 1, 3) := by kernel_rfl
@[go_sem] theorem fof54_4 : fof Try.prog 54 4 = some (4, 1, 3) := by kernel_rfl
@[go_sem] theorem seq54 : structEq Try.prog 54 = true := by kernel_rfl
@[go_sem] theorem tk60 : tk Try.prog 60 = TK.slice 87 := by kernel_rfl
@[go_sem] theorem tin60 : tin Try.prog 60 = true := by kernel_rfl
@[go_sem] theorem tsz60 : tsz Try.prog 60 = 1 := by kernel_rfl
@[go_sem] theorem tk61 : tk Try.prog 61 = TK.slice 101 := by kernel_rfl
@[go_sem] theorem tin61 : tin Try.prog 61 = true := by kernel_rfl
@[go_sem] theorem tsz61 : tsz Try.prog 61 = 1 := by kernel_rfl
@[go_sem] theorem tk62 : tk Try.prog 62 = TK.slice 128 := by kernel_rfl
@[go_sem] theorem tin62 : tin Try.prog 62 = true := by kernel_rfl
@[go_sem] theorem tsz62 : tsz Try.prog 62 = 1 := by kernel_rfl
@[go_sem] theorem tk63 : tk Try.prog 63 = TK.slice 130 := by kernel_rfl
@[go_sem] theorem tin63 : tin Try.prog 63 = true := by kernel_rfl
@[go_sem] theorem tsz63 : tsz Try.prog 63 = 1 := by kernel_rfl
@[go_sem] theorem tk65 : tk Try.prog 65 = TK.struct := by kernel_rfl
@[go_sem] theorem tin65 : tin Try.prog 65 = true := by kernel_rfl
@[go_sem] theorem tsz65 : tsz Try.prog 65 = 6 := by kernel_rfl
@[go_sem] theorem tby65 : tbytes Try.prog 65 = 112 := by kernel_rfl
@[go_sem] theorem tok65 : tok Try.prog 65 = true := by kernel_rfl
@[go_sem] theorem tz65 : tzero Try.prog 65 = AV.agg   [AV.int IntKind.i64 (0), AV.l true 0 [], AV.l true 0 [], AV.int IntKind.i64 (0), AV.l true 0 [],     AV.l true 0 []] := by kernel_rfl
@[go_sem] theorem fsin65 : fsIn Try.prog 65 = true := by kernel_rfl
@[go_sem] theorem fof65_0 : fof Try.prog 65 0 = some (0, 1, 3) := by kernel_rfl
@[go_sem] theorem fof65_1 : fof Try.prog 65 1 = some (1, 1, 60) := by kernel_rfl
@[go_sem] theorem fof65_2 : fof Try.prog 65 2 = some (2, 1, 61) := by kernel_rfl
@[go_sem] theorem fof65_3 : fof Try.prog 65 3 = some (3, 1, 3) := by kernel_rfl
@[go_sem] theorem fof65_4 : fof Try.prog 65 4 = some (4, 1, 62) := by kernel_rfl
@[go_sem] theorem fof65_5 : fof Try.prog 65 5 = some (5, 1, 63) := by kernel_rfl
@[go_sem] theorem tk85 : tk Try.prog 85 = TK.slice 92 := by kernel_rfl
@[go_sem] theorem tin85 : tin Try.prog 85 = true := by kernel_rfl
@[go_sem] theorem tsz85 : tsz Try.prog 85 = 1 := by kernel_rfl
@[go_sem] theorem tk87 : tk Try.prog 87 = TK.struct := by kernel_rfl
@[go_sem] theorem tin87 : tin Try.prog 87 = true := by kernel_rfl
@[go_sem] theorem tsz87 : tsz Try.prog 87 = 3 := by kernel_rfl
@[go_sem] theorem tby87 : tbytes Try.prog 87 = 40 := by kernel_rfl
@[go_sem] theorem tok87 : tok Try.prog 87 = true := by kernel_rfl
@[go_sem] theorem tz87 : tzero Try.prog 87 = AV.agg [AV.int IntKind.i64 (0), AV.int IntKind.i64 (0), AV.l true 0 []] := by kernel_rfl
@[go_sem] theorem fsin87 : fsIn Try.prog 87 = true := by kernel_rfl
@[go_sem] theorem fof87_0 : fof Try.prog 87 0 = some (0, 1, 3) := by kernel_rfl
@[go_sem] theorem fof87_1 : fof Try.prog 87 1 = some (1, 1, 3) := by kernel_rfl
@[go_sem] theorem fof87_2 : fof Try.prog 87 2 = some (2, 1, 85) := by kernel_rfl
@[go_sem] theorem tk92 : tk Try.prog 92 = TK.struct := by kernel_rfl
@[go_sem] theorem tin92 : tin Try.prog 92 = true := by kernel_rfl
@[go_sem] theorem tsz92 : tsz Try.prog 92 = 4 := by kernel_rfl
@[go_sem] theorem tby92 : tbytes Try.prog 92 = 32 := by kernel_rfl
@[go_sem] theorem tok92 : tok Try.prog 92 = true := by kernel_rfl
@[go_sem] theorem tz92 : tzero Try.prog 92 = AV.agg   [AV.int IntKind.i64 (0), AV.int IntKind.i64 (0), AV.int IntKind.i64 (0),     AV.int IntKind.i64 (0)] := by kernel_rfl
@[go_sem] theorem fsin92 : fsIn Try.prog 92 = true := by kernel_rfl
@[go_sem] theorem fof92_0 : fof Try.prog 92 0 = some (0, 1, 3) := by kernel_rfl
@[go_sem] theorem fof92_1 : fof Try.prog 92 1 = some (1, 1, 3) := by kernel_rfl
@[go_sem] theorem fof92_2 : fof Try.prog 92 2 = some (2, 1, 3) := by kernel_rfl
@[go_sem] theorem fof92_3 : fof Try.prog 92 3 = some (3, 1, 3) := by kernel_rfl
@[go_sem] theorem seq92 : structEq Try.prog 92 = true := by kernel_rfl
@[go_sem] theorem tk96 : tk Try.prog 96 = TK.slice 22 := by kernel_rfl
@[go_sem] theorem tin96 : tin Try.prog 96 = true := by kernel_rfl
@[go_sem] theorem tsz96 : tsz Try.prog 96 = 1 := by kernel_rfl
@[go_sem] theorem tk98 : tk Try.prog 98 = TK.struct := by kernel_rfl
@[go_sem] theorem tok98 : tok Try.prog 98 = true := by kernel_rfl
@[go_sem] theorem tz98 : tzero Try.prog 98 = AV.agg [AV.l true 0 [], AV.l true 0 []] := by kernel_rfl
@[go_sem] theorem fsin98 : fsIn Try.prog 98 = true := by kernel_rfl
@[go_sem] theorem fof98_0 : fof Try.prog 98 0 = some (0, 1, 22) := by kernel_rfl
@[go_sem] theorem fof98_1 : fof Try.prog 98 1 = some (1, 1, 96) := by kernel_rfl
@[go_sem] theorem tk101 : tk Try.prog 101 = TK.struct := by kernel_rfl
@[go_sem] theorem tin101 : tin Try.prog 101 = true := by kernel_rfl
@[go_sem] theorem tsz101 : tsz Try.prog 101 = 4 := by kernel_rfl
@[go_sem] theorem tby101 : tbytes Try.prog 101 = 48 := by kernel_rfl
@[go_sem] theorem tok101 : tok Try.prog 101 = true := by kernel_rfl
@[go_sem] theorem tz101 : tzero Try.prog 101 = AV.agg   [AV.int IntKind.i64 (0), AV.int IntKind.i64 (0), AV.l true 0 [], AV.int IntKind.i64 (0)] := by kernel_rfl
@[go_sem] theorem fsin101 : fsIn Try.prog 101 = true := by kernel_rfl
@[go_sem] theorem fof101_0 : fof Try.prog 101 0 = some (0, 1, 3) := by kernel_rfl
@[go_sem] theorem fof101_1 : fof Try.prog 101 1 = some (1, 1, 3) := by kernel_rfl
@[go_sem] theorem fof101_2 : fof Try.prog 101 2 = some (2, 1, 49) := by kernel_rfl
@[go_sem] theorem fof101_3 : fof Try.prog 101 3 = some (3, 1, 3) := by kernel_rfl
@[go_sem] theorem tk114 : tk Try.prog 114 = TK.map 116 3 := by kernel_rfl
@[go_sem] theorem tin114 : tin Try.prog 114 = true := by kernel_rfl
@[go_sem] theorem tsz114 : tsz Try.prog 114 = 1 := by kernel_rfl
@[go_sem] theorem tok114 : tok Try.prog 114 = true := by kernel_rfl
@[go_sem] theorem tz114 : tzero Try.prog 114 = AV.nilm := by kernel_rfl
@[go_sem] theorem tk116 : tk Try.prog 116 = TK.struct := by kernel_rfl
@[go_sem] theorem tsz116 : tsz Try.prog 116 = 2 := by kernel_rfl
@[go_sem] theorem tok116 : tok Try.prog 116 = true := by kernel_rfl
@[go_sem] theorem tz116 : tzero Try.prog 116 = AV.agg [AV.int IntKind.i64 (0), AV.int IntKind.i64 (0)] := by kernel_rfl
@[go_sem] theorem fsin116 : fsIn Try.prog 116 = true := by kernel_rfl
@[go_sem] theorem fof116_0 : fof Try.prog 116 0 = some (0, 1, 3) := by kernel_rfl
@[go_sem] theorem fof116_1 : fof Try.prog 116 1 = some (1, 1, 3) := by kernel_rfl
@[go_sem] theorem kt116 : keyTy Try.prog 116 = true := by kernel_rfl
@[go_sem] theorem tk128 : tk Try.prog 128 = TK.struct := by kernel_rfl
@[go_sem] theorem tin128 : tin Try.prog 128 = true := by kernel_rfl
@[go_sem] theorem tsz128 : tsz Try.prog 128 = 2 := by kernel_rfl
@[go_sem] theorem tby128 : tbytes Try.prog 128 = 16 := by kernel_rfl
@[go_sem] theorem tok128 : tok Try.prog 128 = true := by kernel_rfl
@[go_sem] theorem tz128 : tzero Try.prog 128 = AV.agg [AV.int IntKind.i64 (0), AV.int IntKind.i64 (0)] := by kernel_rfl
@[go_sem] theorem fof128_0 : fof Try.prog 128 0 = some (0, 1, 3) := by kernel_rfl
@[go_sem] theorem fof128_1 : fof Try.prog 128 1 = some (1, 1, 3) := by kernel_rfl
@[go_sem] theorem seq128 : structEq Try.prog 128 = true := by kernel_rfl
@[go_sem] theorem tk130 : tk Try.prog 130 = TK.struct := by kernel_rfl
@[go_sem] theorem tin130 : tin Try.prog 130 = true := by kernel_rfl
@[go_sem] theorem tsz130 : tsz Try.prog 130 = 3 := by kernel_rfl
@[go_sem] theorem tby130 : tbytes Try.prog 130 = 24 := by kernel_rfl
@[go_sem] theorem tok130 : tok Try.prog 130 = true := by kernel_rfl
@[go_sem] theorem tz130 : tzero Try.prog 130 = AV.agg [AV.int IntKind.i64 (0), AV.int IntKind.i64 (0), AV.int IntKind.i64 (0)] := by kernel_rfl
@[go_sem] theorem fof130_0 : fof Try.prog 130 0 = some (0, 1, 3) := by kernel_rfl
@[go_sem] theorem fof130_1 : fof Try.prog 130 1 = some (1, 1, 3) := by kernel_rfl
@[go_sem] theorem fof130_2 : fof Try.prog 130 2 = some (2, 1, 3) := by kernel_rfl
@[go_sem] theorem seq130 : structEq Try.prog 130 = true := by kernel_rfl
@[go_sem] theorem tk156 : tk Try.prog 156 = TK.slice 49 := by kernel_rfl
@[go_sem] theorem hb19 : hasBody Try.prog 19 = true := by kernel_rfl
@[go_sem] theorem hb22 : hasBody Try.prog 22 = true := by kernel_rfl
@[go_sem] theorem hb23 : hasBody Try.prog 23 = true := by kernel_rfl
@[go_sem] theorem hb24 : hasBody Try.prog 24 = true := by kernel_rfl
@[go_sem] theorem hb25 : hasBody Try.prog 25 = true := by kernel_rfl
@[go_sem] theorem hb26 : hasBody Try.prog 26 = true := by kernel_rfl
@[go_sem] theorem hb27 : hasBody Try.prog 27 = true := by kernel_rfl
@[go_sem] theorem hb28 : hasBody Try.prog 28 = true := by kernel_rfl
@[go_sem] theorem hb30 : hasBody Try.prog 30 = true := by kernel_rfl
@[go_sem] theorem hb31 : hasBody Try.prog 31 = true := by kernel_rfl
@[go_sem] theorem hb32 : hasBody Try.prog 32 = true := by kernel_rfl
@[go_sem] theorem hb33 : hasBody Try.prog 33 = true := by kernel_rfl
@[go_sem] theorem hb34 : hasBody Try.prog 34 = true := by kernel_rfl
@[go_sem] theorem hb35 : hasBody Try.prog 35 = true := by kernel_rfl
@[go_sem] theorem hb36 : hasBody Try.prog 36 = true := by kernel_rfl
@[go_sem] theorem hb46 : hasBody Try.prog 46 = true := by kernel_rfl
@[go_sem] theorem hb47 : hasBody Try.prog 47 = true := by kernel_rfl
@[go_sem] theorem hb48 : hasBody Try.prog 48 = true := by kernel_rfl
@[go_sem] theorem hb52 : hasBody Try.prog 52 = true := by kernel_rfl
@[go_sem] theorem hb53 : hasBody Try.prog 53 = true := by kernel_rfl
@[go_sem] theorem hb54 : hasBody Try.prog 54 = true := by kernel_rfl
@[go_sem] theorem hb55 : hasBody Try.prog 55 = true := by kernel_rfl
@[go_sem] theorem hb56 : hasBody Try.prog 56 = true := by kernel_rfl
@[go_sem] theorem hb57 : hasBody Try.prog 57 = true := by kernel_rfl
@[go_sem] theorem hb58 : hasBody Try.prog 58 = true := by kernel_rfl
@[go_sem] theorem hb59 : hasBody Try.prog 59 = true := by kernel_rfl
@[go_sem] theorem hb60 : hasBody Try.prog 60 = true := by kernel_rfl
@[go_sem] theorem hb61 : hasBody Try.prog 61 = true := by kernel_rfl
@[go_sem] theorem hb62 : hasBody Try.prog 62 = true := by kernel_rfl
@[go_sem] theorem hb63 : hasBody Try.prog 63 = true := by kernel_rfl
@[go_sem] theorem hb64 : hasBody Try.prog 64 = true := by kernel_rfl
@[go_sem] theorem hb65 : hasBody Try.prog 65 = true := by kernel_rfl
@[go_sem] theorem hb67 : hasBody Try.prog 67 = true := by kernel_rfl
@[go_sem] theorem hb68 : hasBody Try.prog 68 = true := by kernel_rfl
@[go_sem] theorem hb69 : hasBody Try.prog 69 = true := by kernel_rfl
@[go_sem] theorem hb79 : hasBody Try.prog 79 = true := by kernel_rfl
@[go_sem] theorem hb80 : hasBody Try.prog 80 = true := by kernel_rfl
@[go_sem] theorem hb81 : hasBody Try.prog 81 = true := by kernel_rfl
@[go_sem] theorem hb82 : hasBody Try.prog 82 = true := by kernel_rfl
@[go_sem] theorem hb83 : hasBody Try.prog 83 = true := by kernel_rfl
@[go_sem] theorem hb84 : hasBody Try.prog 84 = true := by kernel_rfl
@[go_sem] theorem hb85 : hasBody Try.prog 85 = true := by kernel_rfl
@[go_sem] theorem hb86 : hasBody Try.prog 86 = true := by kernel_rfl
@[go_sem] theorem hb87 : hasBody Try.prog 87 = true := by kernel_rfl
@[go_sem] theorem hb89 : hasBody Try.prog 89 = true := by kernel_rfl
@[go_sem] theorem hb90 : hasBody Try.prog 90 = true := by kernel_rfl
@[go_sem] theorem hb91 : hasBody Try.prog 91 = true := by kernel_rfl
@[go_sem] theorem hb92 : hasBody Try.prog 92 = true := by kernel_rfl
@[go_sem] theorem hb93 : hasBody Try.prog 93 = true := by kernel_rfl
@[go_sem] theorem hb94 : hasBody Try.prog 94 = true := by kernel_rfl
@[go_sem] theorem hb95 : hasBody Try.prog 95 = true := by kernel_rfl
@[go_sem] theorem hb96 : hasBody Try.prog 96 = true := by kernel_rfl
@[go_sem] theorem hb108 : hasBody Try.prog 108 = true := by kernel_rfl
@[go_sem] theorem hb109 : hasBody Try.prog 109 = true := by kernel_rfl
@[go_sem] theorem hb111 : hasBody Try.prog 111 = true := by kernel_rfl
@[go_sem] theorem hb112 : hasBody Try.prog 112 = true := by kernel_rfl
@[go_sem] theorem hb114 : hasBody Try.prog 114 = true := by kernel_rfl
@[go_sem] theorem hb115 : hasBody Try.prog 115 = true := by kernel_rfl
@[go_sem] theorem hb116 : hasBody Try.prog 116 = true := by kernel_rfl
@[go_sem] theorem hb123 : hasBody Try.prog 123 = true := by kernel_rfl
@[go_sem] theorem hb124 : hasBody Try.prog 124 = true := by kernel_rfl
@[go_sem] theorem hb125 : hasBody Try.prog 125 = true := by kernel_rfl
@[go_sem] theorem hb126 : hasBody Try.prog 126 = true := by kernel_rfl
@[go_sem] theorem res11 : Try.f11.results = #[.tmp 6] := by kernel_rfl
@[go_sem] theorem res19 : Try.f19.results = #[.tmp 2, .tmp 3] := by kernel_rfl
@[go_sem] theorem res22 : Try.f22.results = #[.tmp 0] := by kernel_rfl
@[go_sem] theorem res23 : Try.f23.results = #[.tmp 4] := by kernel_rfl
@[go_sem] theorem res24 : Try.f24.results = #[.tmp 8] := by kernel_rfl
@[go_sem] theorem res25 : Try.f25.results = #[.tmp 2] := by kernel_rfl
@[go_sem] theorem res26 : Try.f26.results = #[.tmp 4] := by kernel_rfl
@[go_sem] theorem res27 : Try.f27.results = #[.tmp 8] := by kernel_rfl
@[go_sem] theorem res28 : Try.f28.results = #[.tmp 6] := by kernel_rfl
@[go_sem] theorem res29 : Try.f29.results = #[.tmp 6] := by kernel_rfl
@[go_sem] theorem res30 : Try.f30.results = #[.tmp 4] := by kernel_rfl
@[go_sem] theorem res31 : Try.f31.results = #[.cell 6 65, .tmp 7] := by kernel_rfl
@[go_sem] theorem res32 : Try.f32.results = #[.tmp 4, .tmp 5] := by kernel_rfl
@[go_sem] theorem res33 : Try.f33.results = #[.tmp 8] := by kernel_rfl
@[go_sem] theorem res34 : Try.f34.results = #[.cell 2 65] := by kernel_rfl
@[go_sem] theorem res35 : Try.f35.results = #[.tmp 4] := by kernel_rfl
@[go_sem] theorem res36 : Try.f36.results = #[.tmp 2, .tmp 3] := by kernel_rfl
@[go_sem] theorem res46 : Try.f46.results = #[.tmp 2, .tmp 3] := by kernel_rfl
@[go_sem] theorem res47 : Try.f47.results = #[.tmp 2] := by kernel_rfl
@[go_sem] theorem res52 : Try.f52.results = #[.tmp 2] := by kernel_rfl
@[go_sem] theorem res53 : Try.f53.results = #[.tmp 4] := by kernel_rfl
@[go_sem] theorem res54 : Try.f54.results = #[.tmp 4] := by kernel_rfl
@[go_sem] theorem res55 : Try.f55.results = #[.tmp 4] := by kernel_rfl
@[go_sem] theorem res56 : Try.f56.results = #[.tmp 4] := by kernel_rfl
@[go_sem] theorem res57 : Try.f57.results = #[.cell 6 101] := by kernel_rfl
@[go_sem] theorem res58 : Try.f58.results = #[.tmp 4] := by kernel_rfl
@[go_sem] theorem res59 : Try.f59.results = #[.tmp 6] := by kernel_rfl
@[go_sem] theorem res60 : Try.f60.results = #[.tmp 2] := by kernel_rfl
@[go_sem] theorem res61 : Try.f61.results = #[.tmp 2] := by kernel_rfl
@[go_sem] theorem res62 : Try.f62.results = #[.tmp 8] := by kernel_rfl
@[go_sem] theorem res63 : Try.f63.results = #[.tmp 10] := by kernel_rfl
@[go_sem] theorem res64 : Try.f64.results = #[.tmp 6] := by kernel_rfl
@[go_sem] theorem res65 : Try.f65.results = #[.tmp 4] := by kernel_rfl
@[go_sem] theorem res66 : Try.f66.results = #[.tmp 3] := by kernel_rfl
@[go_sem] theorem res67 : Try.f67.results = #[.tmp 6] := by kernel_rfl
@[go_sem] theorem res68 : Try.f68.results = #[.tmp 4] := by kernel_rfl
@[go_sem] theorem res69 : Try.f69.results = #[.tmp 4] := by kernel_rfl
@[go_sem] theorem res79 : Try.f79.results = #[.tmp 6] := by kernel_rfl
@[go_sem] theorem res80 : Try.f80.results = #[.tmp 4] := by kernel_rfl
@[go_sem] theorem res81 : Try.f81.results = #[.tmp 2] := by kernel_rfl
@[go_sem] theorem res82 : Try.f82.results = #[.tmp 4] := by kernel_rfl
@[go_sem] theorem res83 : Try.f83.results = #[.tmp 4] := by kernel_rfl
@[go_sem] theorem res84 : Try.f84.results = #[.tmp 2] := by kernel_rfl
@[go_sem] theorem res85 : Try.f85.results = #[.tmp 2] := by kernel_rfl
@[go_sem] theorem res86 : Try.f86.results = #[] := by kernel_rfl
@[go_sem] theorem res87 : Try.f87.results = #[.tmp 4] := by kernel_rfl
@[go_sem] theorem res88 : Try.f88.results = #[.tmp 3] := by kernel_rfl
@[go_sem] theorem res89 : Try.f89.results = #[.tmp 4] := by kernel_rfl
@[go_sem] theorem res90 : Try.f90.results = #[.tmp 6] := by kernel_rfl
@[go_sem] theorem res91 : Try.f91.results = #[.tmp 2] := by kernel_rfl
@[go_sem] theorem res92 : Try.f92.results = #[.tmp 6] := by kernel_rfl
@[go_sem] theorem res93 : Try.f93.results = #[.tmp 2] := by kernel_rfl
@[go_sem] theorem res94 : Try.f94.results = #[] := by kernel_rfl
@[go_sem] theorem res96 : Try.f96.results = #[.tmp 4] := by kernel_rfl
@[go_sem] theorem res108 : Try.f108.results = #[.tmp 6] := by kernel_rfl
@[go_sem] theorem res109 : Try.f109.results = #[.tmp 4] := by kernel_rfl
@[go_sem] theorem res110 : Try.f110.results = #[.tmp 4] := by kernel_rfl
@[go_sem] theorem res111 : Try.f111.results = #[.tmp 6] := by kernel_rfl
@[go_sem] theorem res112 : Try.f112.results = #[.tmp 2] := by kernel_rfl
@[go_sem] theorem res113 : Try.f113.results = #[.tmp 2] := by kernel_rfl
@[go_sem] theorem res114 : Try.f114.results = #[.tmp 2] := by kernel_rfl
@[go_sem] theorem res115 : Try.f115.results = #[.tmp 2] := by kernel_rfl
@[go_sem] theorem res116 : Try.f116.results = #[.tmp 2] := by kernel_rfl
@[go_sem] theorem res123 : Try.f123.results = #[.tmp 2] := by kernel_rfl
@[go_sem] theorem res124 : Try.f124.results = #[.tmp 2] := by kernel_rfl
@[go_sem] theorem res125 : Try.f125.results = #[.tmp 4] := by kernel_rfl
@[go_sem] theorem res126 : Try.f126.results = #[.tmp 6] := by kernel_rfl
end Go.Proofs.Ytmajndgdfmnchaa
