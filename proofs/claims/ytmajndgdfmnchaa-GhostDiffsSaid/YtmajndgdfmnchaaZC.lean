/- ghost's own functions: begin. -/
import Derived.Test.YtmajndgdfmnchaaZB
namespace Go.Proofs.Ytmajndgdfmnchaa
open Go Go.T Go.Gh Go.Proofs
@[go_sem] theorem res37 : Try.f37.results = #[.tmp 2] := by kernel_rfl
set_option linter.unusedSimpArgs false
set_option maxRecDepth 10000 in
theorem f37_spec (home : Int) (h : Hp) (K : AV → Hp → Prop)
    (hK : ∀ L L1 L2 h', h'.con L = .blk (objC (List.replicate 32 0) L1 L2 home 0 true home) → h'.con L1 = .mp [] 0 → h'.con L2 = .mp [] 0 → L1 ≠ L2 → h.con L = .none → h.con L1 = .none → h.con L2 = .none → Keeps h h' → K (.pt L 0 0 0) h') :
    CallK Try.prog 37 [.int .i64 home] h K := by
  refine CallK.of_awpH mixed (fun _ => []) (fn := Try.f37) (by kernel_rfl) rfl (by kernel_rfl) (by show 1 ≤ _; decide) ?_
  simp only [go_sem, Nat.reduceAdd, Nat.reduceBEq, Nat.reduceEqDiff, Nat.reduceLeDiff, Nat.reduceLT, Nat.reduceSub]
  have none : ∀ s, h.con ⟨37, s, h.cnt 37 s⟩ = .none := fun s => h.ok _ (by simp)
  refine hK ⟨37, 9, h.cnt 37 9⟩ ⟨37, 3, h.cnt 37 3⟩ ⟨37, 4, h.cnt 37 4⟩ _ ?_ ?_ ?_ ?_ (none 9) (none 3) (none 4) ((((Keeps.refl h).alloc _ _ _).alloc _ _ _).alloc _ _ _)
  · simp [Hp.alloc, objC, List.replicate]
  · simp [Hp.alloc]
  · simp [Hp.alloc]
  · simp
end Go.Proofs.Ytmajndgdfmnchaa
