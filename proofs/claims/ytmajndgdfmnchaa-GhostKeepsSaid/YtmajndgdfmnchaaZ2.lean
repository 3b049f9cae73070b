/- Part of a proof: what functions of the given program compute, and plain laws of it. -/
import Derived.Test.YtmajndgdfmnchaaZ1
import Derived.Test.YtmajndgdfmnchaaT3
/- The reference's functions of layer 23: what they compute. -/
namespace Go.Proofs.Ytmajndgdfmnchaa
open Go Go.T Go.Gh Go.Proofs

def encN (n : Note) : AV := .agg [.int .i64 n.kind, .int .i64 n.obj, .int .i64 n.node, .int .i64 n.num, .int .i64 n.to, .int .i64 n.next]
theorem encN_cells (n : Note) : (encN n).cells = [.int .i64 n.kind, .int .i64 n.obj, .int .i64 n.node, .int .i64 n.num, .int .i64 n.to, .int .i64 n.next] := by simp [encN, AV.cells]

theorem wrapS {n : Nat} (h : n < 2 ^ 62) : IntKind.i64.wrap ((n : Int) + 1) = ((n + 1 : Nat) : Int) := by
  rw [IntWalk.i64_in _ (by omega)]; simp

set_option linter.unusedSimpArgs false
end Go.Proofs.Ytmajndgdfmnchaa
/- ghost's own functions: has. -/
namespace Go.Proofs.Ytmajndgdfmnchaa
open Go Go.T Go.Gh Go.Proofs

/-- An object's cells. -/
def objC (made : List Int) (L1 L2 : Lab) (atNode atNum : Int) (freed : Bool) (home : Int) : List AV :=
  made.map (.int .i64) ++ [.mr L1, .mr L2, .int .i64 atNode, .int .i64 atNum, .bool freed, .int .i64 home]
@[go_sem] theorem res70 : Try.f70.results = #[.tmp 4] := by kernel_rfl
set_option linter.unusedSimpArgs false
set_option maxRecDepth 10000 in
theorem f70_spec (made : List Int) (L1 L2 : Lab) (atNode atNum : Int) (freed : Bool) (home node num : Int) (L : Lab) (h : Hp) (hL : h.con L = .blk (objC made L1 L2 atNode atNum freed home)) (hm : made.length = 32) :
    CallK Try.prog 70 [.pt L 0 0 0, .agg [.int .i64 node, .int .i64 num]] h (fun r h' => r = .bool (hasB made home node num) ∧ h' = h) := by
  refine PureAt.of_awp mixed (fun _ => []) (fn := Try.f70) (by kernel_rfl) rfl (by kernel_rfl) (by show 2 ≤ _; decide) (by simp [AV.lf]) ?_
  have hl : (h.con L).live := by rw [hL]; trivial
  have hne := lab_ne hl
  have hlen : (objC made L1 L2 atNode atNum freed home).length = 38 := by simp [objC, hm]
  have g37 : (objC made L1 L2 atNode atNum freed home).getD 37 .undef = .int .i64 home := by simp [objC, hm]
  have k : ∀ c, Keeps h (h.alloc 70 3 c) := fun c => (Keeps.refl h).alloc 70 3 c
  by_cases hn : 0 ≤ node ∧ node < 32
  · obtain ⟨m, rfl⟩ : ∃ m : Nat, node = m := ⟨node.toNat, by omega⟩
    have hm32 : m < 32 := by omega
    have gm : (objC made L1 L2 atNode atNum freed home).getD m .undef = .int .i64 (made.getD m 0) := by
      have : m < made.length := by omega
      simp [objC, List.getElem?_append_left, this]
    have d1 : decide ((m : Int) < 0) = false := by simp
    have d2 : decide ((m : Int) ≥ 32) = false := by simp; omega
    simp only [go_sem, hne, hL, hlen, g37, gm, d1, d2, Nat.reduceAdd, Nat.reduceBEq, Nat.reduceEqDiff, Nat.reduceLeDiff, Nat.reduceLT, Nat.reduceSub]
    have hb : hasB made home m num = ((decide (1 ≤ num) && decide (num ≤ made.getD m 0)) || (num == 0 && (m : Int) == home)) := by
      simp only [hasB]
      have e1 : decide ((m : Int) < 32) = true := by simp; omega
      simp [e1]
    rw [hb]
    by_cases c1 : 1 ≤ num
    · have c0 : ¬ num = 0 := by omega
      by_cases c2 : num ≤ made.getD m 0
      · simp [c1, c0, c2, k]; omega
      · simp [c1, c0, c2, k]; omega
    · by_cases c0 : num = 0 <;> by_cases c2 : (m : Int) = home <;> simp [c1, c0, c2, k]
  · rcases Int.lt_or_le node 0 with h1 | h1
    · have d1 : decide (node < 0) = true := by simpa using h1
      have hb : hasB made home node num = false := by simp [hasB, Int.not_le.2 h1]
      rw [hb]
      simp only [go_sem, hne, hL, hlen, g37, d1, Nat.reduceAdd, Nat.reduceBEq, Nat.reduceEqDiff, Nat.reduceLeDiff, Nat.reduceLT, Nat.reduceSub]
      exact k _
    · have h2 : ¬ node < 32 := fun h2 => hn ⟨h1, h2⟩
      have d1 : decide (node < 0) = false := by simp; omega
      have d2 : decide (node ≥ 32) = true := by simp; omega
      have hb : hasB made home node num = false := by simp [hasB, h2]
      rw [hb]
      simp only [go_sem, hne, hL, hlen, g37, d1, d2, Nat.reduceAdd, Nat.reduceBEq, Nat.reduceEqDiff, Nat.reduceLeDiff, Nat.reduceLT, Nat.reduceSub]
      exact k _
end Go.Proofs.Ytmajndgdfmnchaa
/- ghost's own functions: begin. -/
namespace Go.Proofs.Ytmajndgdfmnchaa
open Go Go.T Go.Gh Go.Proofs
@[go_sem] theorem res37 : Try.f37.results = #[.tmp 2] := by kernel_rfl
set_option linter.unusedSimpArgs false
set_option maxRecDepth 10000 in
theorem f37_spec (home : Int) (h : Hp) (K : AV → Hp → Prop)
    (hK : ∀ L L1 L2 h', h'.con L = .blk (objC (List.replicate 32 0) L1 L2 home 0 true home) → h'.con L1 = .mp [] 0 → h'.con L2 = .mp [] 0 → L1 ≠ L2 → h.con L = .none → h.con L1 = .none → h.con L2 = .none → Keeps h h' → K (.pt L 0 0 0) h') :
    CallK Try.prog 37 [.int .i64 home] h K := by
  refine CallK.of_awpH mixed (fun _ => []) (fn := Try.f37) (by kernel_rfl) rfl (by kernel_rfl) (by show 1 ≤ _; decide) ?_
  simp only [go_sem, Nat.reduceAdd, Nat.reduceBEq, Nat.reduceEqDiff, Nat.reduceLeDiff, Nat.reduceLT, Nat.reduceSub]
  have none : ∀ s, h.con ⟨37, s, h.cnt 37 s⟩ = .none := fun s => h.ok _ (by simp)
  refine hK ⟨37, 9, h.cnt 37 9⟩ ⟨37, 3, h.cnt 37 3⟩ ⟨37, 4, h.cnt 37 4⟩ _ ?_ ?_ ?_ ?_ (none 9) (none 3) (none 4) ((((Keeps.refl h).alloc _ _ _).alloc _ _ _).alloc _ _ _)
  · simp [Hp.alloc, objC, List.replicate]
  · simp [Hp.alloc]
  · simp [Hp.alloc]
  · simp
end Go.Proofs.Ytmajndgdfmnchaa
/- The reference's can. -/
namespace Go.Proofs.Ytmajndgdfmnchaa
open Go Go.T Go.Gh Go.Proofs
set_option linter.unusedSimpArgs false
theorem find_at {α : Type} (p : α → Bool) (l : List α) (i : Nat) (hlt : i < l.length) (hc : (l.take i).find? p = none) (hp : p l[i] = true) : l.find? p = some l[i] := by
  have h1 : l.find? p = (l.take (i + 1) ++ l.drop (i + 1)).find? p := by rw [List.take_append_drop]
  rw [h1, List.find?_append, List.take_succ_eq_append_getElem hlt, List.find?_append, hc]
  simp [hp]
theorem two (a b : Bool) : a = false ∨ (a = true ∧ b = false) ∨ (a = true ∧ b = true) := by revert a b; decide
end Go.Proofs.Ytmajndgdfmnchaa
/- The reference's Check. -/
namespace Go.Proofs.Ytmajndgdfmnchaa
open Go Go.T Go.Gh Go.Proofs
def I (n : Int) : AV := .int .i64 n
theorem I_eq (n : Int) : I n = .int .i64 n := by simp [I]
theorem I_cells (n : Int) : (I n).cells = [.int .i64 n] := by simp [I, AV.cells]
def pairV (r : Int × Int) : AV := .tup [.int .i64 r.1, .int .i64 r.2]
set_option linter.unusedSimpArgs false
end Go.Proofs.Ytmajndgdfmnchaa
