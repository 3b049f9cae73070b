/- Part of a proof: what functions of the given program compute, and plain laws of it. -/
import Derived.Sort.WalkA14
import Derived.Shelf.Small.Bits
import Derived.Shelf.Sort.Plain
import Derived.Sort.OwnSortedInts
import Derived.Test.YtmajndgdfmnchaaT3
import Derived.Test.YtmajndgdfmnchaaZ5
/- tree.New. -/
namespace Go.Proofs.Ytmajndgdfmnchaa
open Go Go.T Go.Gh Go.Proofs
set_option linter.unusedSimpArgs false
def cellO (L : Lab) (l : List Int) : AV := if l = [] then .l true 0 [] else .os L
structure NearH (h hp : Hp) (Lt Ln : Lab) (Lf : Nat → Lab) (ls : Nat → List Int) (ps : List Int) (cs : List AV) : Prop where
  t : hp.con Lt = .blk [.l false 1 (ps.map I), .os Ln]
  n : hp.con Ln = .arr 1 cs
  len : cs.length = ps.length
  cell : ∀ v (hv : v < cs.length), cs[v] = cellO (Lf v) (ls v)
  f : ∀ v, v < ps.length → ls v ≠ [] → hp.con (Lf v) = .arr 1 ((ls v).map I)
  ne : ∀ v, v < ps.length → ls v ≠ [] → Lf v ≠ Lt ∧ Lf v ≠ Ln
  inj : ∀ u v, u < ps.length → v < ps.length → u ≠ v → ls u ≠ [] → ls v ≠ [] → Lf u ≠ Lf v
  tn : Lt ≠ Ln
  ht : h.con Lt = .none
  hn : h.con Ln = .none
  hf : ∀ v, v < ps.length → ls v ≠ [] → h.con (Lf v) = .none
  keeps : Keeps h hp
theorem NearH.congr {h hp : Hp} {Lt Ln : Lab} {Lf : Nat → Lab} {ls ls' : Nat → List Int} {ps : List Int} {cs : List AV} (H : NearH h hp Lt Ln Lf ls ps cs) (he : ∀ v, v < ps.length → ls v = ls' v) : NearH h hp Lt Ln Lf ls' ps cs :=
  ⟨H.t, H.n, H.len, fun v hv => by rw [H.cell v hv, he v (H.len ▸ hv)], fun v hv hn => by rw [← he v hv] at hn ⊢; exact H.f v hv hn, fun v hv hn => H.ne v hv (by rw [he v hv]; exact hn),
    fun a b ha hb hab na nb => H.inj a b ha hb hab (by rw [he a ha]; exact na) (by rw [he b hb]; exact nb), H.tn, H.ht, H.hn, fun v hv hn => H.hf v hv (by rw [he v hv]; exact hn), H.keeps⟩
end Go.Proofs.Ytmajndgdfmnchaa
