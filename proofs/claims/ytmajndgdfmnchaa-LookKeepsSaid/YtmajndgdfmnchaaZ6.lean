/- Part of a proof: what functions of the given program compute, and plain laws of it. -/
import Derived.Test.YtmajndgdfmnchaaT3
import Derived.Test.YtmajndgdfmnchaaZ5
/- The sort's functions are those of the library's own. -/
namespace Go.Proofs.Ytmajndgdfmnchaa
open Go Go.T Go.Gh Go.Proofs Go.Shelf
def slRen : Shelf.Ren :=
{
  f := fun x =>
    match x with
    | 189 => 48
    | 125 => 78
    | 257 => 77
    | 128 => 106
    | 129 => 107
    | 294 => 97
    | 295 => 98
    | 296 => 99
    | 297 => 100
    | 298 => 101
    | 299 => 102
    | 216 => 103
    | 300 => 104
    | 301 => 105
    | 328 => 117
    | 329 => 118
    | 330 => 119
    | 331 => 120
    | 332 => 121
    | 215 => 122
    | 343 => 127
    | n => n,
  t := fun x =>
    match x with
    | 28 => 22
    | 3 => 3
    | 46 => 145
    | 0 => 0
    | 51 => 167
    | 53 => 169
    | 4 => 4
    | 183 => 161
    | 182 => 160
    | 131 => 164
    | 5 => 5
    | 9 => 9
    | 218 => 174
    | 222 => 178
    | 228 => 181
    | 229 => 68
    | n => n,
  g := fun x =>
    have n := x;
    n }
theorem slLays : Lays.n189 Try.prog slRen :=
{ mixed := Eq.refl true, f125 := Eq.trans Try.func78 (congrArg some (Eq.refl (Body.n125 slRen))),
  f128 := Eq.trans Try.func106 (congrArg some (Eq.refl (Body.n128 slRen))),
  f129 := Eq.trans Try.func107 (congrArg some (Eq.refl (Body.n129 slRen))),
  f189 := Eq.trans Try.func48 (congrArg some (Eq.refl (Body.n189 slRen))),
  f215 := Eq.trans Try.func122 (congrArg some (Eq.refl (Body.n215 slRen))),
  f216 := Eq.trans Try.func103 (congrArg some (Eq.refl (Body.n216 slRen))),
  f257 := Eq.trans Try.func77 (congrArg some (Eq.refl (Body.n257 slRen))),
  f294 := Eq.trans Try.func97 (congrArg some (Eq.refl (Body.n294 slRen))),
  f295 := Eq.trans Try.func98 (congrArg some (Eq.refl (Body.n295 slRen))),
  f296 := Eq.trans Try.func99 (congrArg some (Eq.refl (Body.n296 slRen))),
  f297 := Eq.trans Try.func100 (congrArg some (Eq.refl (Body.n297 slRen))),
  f298 := Eq.trans Try.func101 (congrArg some (Eq.refl (Body.n298 slRen))),
  f299 := Eq.trans Try.func102 (congrArg some (Eq.refl (Body.n299 slRen))),
  f300 := Eq.trans Try.func104 (congrArg some (Eq.refl (Body.n300 slRen))),
  f301 := Eq.trans Try.func105 (congrArg some (Eq.refl (Body.n301 slRen))),
  f328 := Eq.trans Try.func117 (congrArg some (Eq.refl (Body.n328 slRen))),
  f329 := Eq.trans Try.func118 (congrArg some (Eq.refl (Body.n329 slRen))),
  f330 := Eq.trans Try.func119 (congrArg some (Eq.refl (Body.n330 slRen))),
  f331 := Eq.trans Try.func120 (congrArg some (Eq.refl (Body.n331 slRen))),
  f332 := Eq.trans Try.func121 (congrArg some (Eq.refl (Body.n332 slRen))),
  f343 := Eq.trans Try.func127 (congrArg some (Eq.refl (Body.n343 slRen))), t0 := Try.underlying0,
  a0 := Try.isAgg0, z0 := Try.sizeOf0, v0 := Try.zeroValue0, t3 := Try.underlying3, a3 := Try.isAgg3, z3 := Try.sizeOf3,
  v3 := Try.zeroValue3, t4 := Try.underlying4, a4 := Try.isAgg4, z4 := Try.sizeOf4, v4 := Try.zeroValue4,
  t5 := Try.underlying5, a5 := Try.isAgg5, z5 := Try.sizeOf5, v5 := Try.zeroValue5, t9 := Try.underlying9,
  a9 := Try.isAgg9, z9 := Try.sizeOf9, v9 := Try.zeroValue9, t28 := Try.underlying22, a28 := Try.isAgg22,
  z28 := Try.sizeOf22, v28 := Try.zeroValue22, t46 := Try.underlying145, a46 := Try.isAgg145, z46 := Try.sizeOf145,
  v46 := Try.zeroValue145, t51 := Try.underlying167, a51 := Try.isAgg167, z51 := Try.sizeOf167, v51 := Try.zeroValue167,
  t53 := Try.underlying169, a53 := Try.isAgg169, z53 := Try.sizeOf169, v53 := Try.zeroValue169,
  t131 := Try.underlying164, a131 := Try.isAgg164, z131 := Try.sizeOf164, v131 := Try.zeroValue164,
  t182 := Try.underlying160, a182 := Try.isAgg160, z182 := Try.sizeOf160, v182 := Try.zeroValue160,
  t183 := Try.underlying161, a183 := Try.isAgg161, z183 := Try.sizeOf161, v183 := Try.zeroValue161,
  t218 := Try.underlying174, a218 := Try.isAgg174, z218 := Try.sizeOf174, v218 := Try.zeroValue174,
  t222 := Try.underlying178, a222 := Try.isAgg178, z222 := Try.sizeOf178, v222 := Try.zeroValue178,
  t228 := Try.underlying181, a228 := Try.isAgg181, z228 := Try.sizeOf181, v228 := Try.zeroValue181,
  t229 := Try.underlying68, a229 := Try.isAgg68, z229 := Try.sizeOf68, v229 := Try.zeroValue68 }

theorem f48_spec (L : Lab) (xs : List Int) (hne : xs ≠ []) (hlen : xs.length < 2 ^ 60) (h : Hp) (hL : h.con L = .arr 1 (xs.map I)) (K : AV → Hp → Prop)
    (hK : K (.tup []) (h.set L (.arr 1 ((xs.mergeSort (fun x y => decide (x ≤ y))).map I)))) : CallK Try.prog 48 [.os L] h K :=
  CallK.sortInts slLays rfl L xs hne hlen h hL K hK
end Go.Proofs.Ytmajndgdfmnchaa
