/- Clones of ints. -/
import Derived.Test.YtmajndgdfmnchaaZTB
namespace Go.Proofs.Ytmajndgdfmnchaa
open Go Go.T Go.Gh Go.Proofs
set_option linter.unusedSimpArgs false
theorem I_lfs (ns : List Int) : AV.lfs (ns.map I) = true := by
  rw [lfs_iff]; intro x hx
  obtain ⟨n, _, rfl⟩ := List.mem_map.1 hx
  simp [I, AV.lf, AV.lfs]
theorem I_frzs (L : Lab) (c : Con) (ns : List Int) : AV.frzs L c (ns.map I) = ns.map I := by
  rw [frzs_map, List.map_map]
  apply List.map_congr_left
  intro n _
  simp [I, AV.frz, AV.frzs]
set_option maxRecDepth 10000 in
theorem f47_spec (ns : List Int) (ex : Bool) (hlen : ns.length < 2 ^ 30) : PureF Try.prog 47 [.l ex 1 (ns.map I)] (.l false 1 (ns.map I)) := by
  refine PureF.of_awpZ mixed (fun _ => []) (fn := Try.f47) (by kernel_rfl) rfl (by kernel_rfl) (by show 1 ≤ _; decide) (by simp [AV.lf, I_lfs]) (fun h => ?_)
  simp only [go_sem, I_eq, I_cells, Nat.reduceAdd, Nat.reduceBEq, Nat.reduceEqDiff, Nat.reduceLeDiff, Nat.reduceLT, Nat.reduceSub]
  refine ⟨fun hn => ⟨h, .done _ _ _ (by rw [hn]; exact Le.l0), Keeps.refl h⟩, by decide, by omega, by omega, _, .step _ ⟨47, 7, h.cnt 47 7⟩ _ _ _ (.done _ _ _ ?_), ?_⟩
  · simp [Hp.alloc, AV.frz]
    exact Le.refl _
  · exact Keeps.set ((Keeps.refl h).alloc _ _ _) ((Keeps.refl h).new 47 7) _
end Go.Proofs.Ytmajndgdfmnchaa
