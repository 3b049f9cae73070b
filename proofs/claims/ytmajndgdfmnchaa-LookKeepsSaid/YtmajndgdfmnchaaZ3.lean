/- Part of a proof: what functions of the given program compute, and plain laws of it. -/
import Derived.Test.YtmajndgdfmnchaaZ2
import Derived.Test.YtmajndgdfmnchaaT3
/- ghost's note. -/
namespace Go.Proofs.Ytmajndgdfmnchaa
open Go Go.T Go.Gh Go.Proofs
structure ObAt (h : Hp) (L L1 L2 : Lab) (o : Ob) : Prop where
  con : h.con L = .blk (objC o.made L1 L2 o.node o.num o.freed o.home)
  m1 : h.con L1 = .mp (mapE o.next 0) o.next.length
  m2 : h.con L2 = .mp (mapE o.heirs 0) o.heirs.length
  len : o.made.length = 32

set_option linter.unusedSimpArgs false
section
variable (made : List Int) (L1 L2 : Lab) (a b : Int) (f : Bool) (hh : Int) (hm : made.length = 32)
include hm
end

end Go.Proofs.Ytmajndgdfmnchaa
/- ghost's Check. -/
namespace Go.Proofs.Ytmajndgdfmnchaa
open Go Go.T Go.Gh Go.Proofs
def tri (t : Lab × Lab × Lab) : List Lab := [t.1, t.2.1, t.2.2]
/-- The objects in memory. -/
structure Objs (g H : Hp) (labs : List (Lab × Lab × Lab)) (ob : Nat → Ob) : Prop where
  obj : ∀ k, (hk : k < labs.length) → ObAt H labs[k].1 labs[k].2.1 labs[k].2.2 (ob k)
  ne : ∀ k, (hk : k < labs.length) → labs[k].2.1 ≠ labs[k].2.2
  new : ∀ k, (hk : k < labs.length) → ∀ x ∈ tri labs[k], g.con x = .none
  dis : ∀ j k, (hj : j < labs.length) → (hk : k < labs.length) → j ≠ k → ∀ x ∈ tri labs[j], x ∉ tri labs[k]

/-- Variables and maps are as they were. -/
def KeepsO (h H : Hp) : Prop := ∀ M, (∀ cs, h.con M ≠ .blk cs) ∧ (∀ es c, h.con M ≠ .mp es c) ∨ H.con M = h.con M
theorem KeepsO.arr {h : Hp} {L : Lab} {sz : Nat} {xs : List AV} (hL : h.con L = .arr sz xs) (c : Con) (f s : Nat) (c' : Con) : KeepsO h ((h.set L c).alloc f s c') := by
  intro M
  by_cases hE : M = ⟨f, s, (h.set L c).cnt f s⟩
  · left
    have : h.con M = .none := by rw [hE]; exact h.ok _ (by simp [Hp.set])
    rw [this]; exact ⟨fun _ => by simp, fun _ _ => by simp⟩
  · by_cases hE2 : M = L
    · left; rw [hE2, hL]; exact ⟨fun _ => by simp, fun _ _ => by simp⟩
    · right
      rw [show ((h.set L c).alloc f s c').con M = (h.set L c).con M from if_neg hE]
      exact if_neg hE2
theorem Objs.nil (g H : Hp) (ob : Nat → Ob) : Objs g H [] ob :=
  ⟨fun k hk => by simp at hk, fun k hk => by simp at hk, fun k hk => by simp at hk, fun j k hj => by simp at hj⟩
theorem ObAt.live {H : Hp} {L L1 L2 : Lab} {o : Ob} (h : ObAt H L L1 L2 o) : ∀ x ∈ tri (L, L1, L2), H.con x ≠ .none := by
  intro x hx
  simp only [tri, List.mem_cons, List.not_mem_nil, or_false] at hx
  rcases hx with rfl | rfl | rfl
  · rw [h.con]; simp
  · rw [h.m1]; simp
  · rw [h.m2]; simp
set_option linter.unusedSimpArgs false
end Go.Proofs.Ytmajndgdfmnchaa
