/- Part of a proof: a small logic of programs over plain values, shown sound for the given machine. -/
import Derived.Test.YtmajndgdfmnchaaT6
/- One value taken for another, cell by cell. -/
namespace Go.T
open Go
/-- Cells, each taken for another. -/
inductive LeF : List AV → List AV → Prop
  | nil : LeF [] []
  | cons {a b : AV} {r s : List AV} : Le a b → LeF r s → LeF (a :: r) (b :: s)
theorem LeF.length {r s : List AV} (h : LeF r s) : r.length = s.length := by
  induction h with
  | nil => rfl
  | cons _ _ ih => simp [ih]
theorem LeF.getD {r s : List AV} (h : LeF r s) : ∀ j, Le (r.getD j .undef) (s.getD j .undef) := by
  induction h with
  | nil => intro j; simpa using Le.refl _
  | cons h1 _ ih =>
    intro j
    cases j with
    | zero => exact h1
    | succ j => simpa using ih j
theorem LeF.refl : ∀ r : List AV, LeF r r := by
  intro r
  induction r with
  | nil => exact .nil
  | cons a r ih => exact .cons (Le.refl a) ih
theorem Le.aggF {r s : List AV} (h : LeF r s) : Le (.agg r) (.agg s) := Le.agg h.length fun j _ => h.getD j
theorem Le.tupF {r s : List AV} (h : LeF r s) : Le (.tup r) (.tup s) := Le.tup h.length fun j _ => h.getD j
/-- Elements, the cells of each taken for others. -/
inductive LeR : List AV → List AV → Prop
  | nil : LeR [] []
  | cons {a b : AV} {r s : List AV} : LeF a.cells b.cells → LeR r s → LeR (a :: r) (b :: s)
theorem LeR.length {r s : List AV} (h : LeR r s) : r.length = s.length := by
  induction h with
  | nil => rfl
  | cons _ _ ih => simp [ih]
theorem LeR.at {r s : List AV} (h : LeR r s) : ∀ i (h1 : i < r.length) (h2 : i < s.length), LeF (r[i]).cells (s[i]).cells := by
  induction h with
  | nil => intro i h1; simp at h1
  | cons h0 _ ih =>
    intro i h1 h2
    cases i with
    | zero => exact h0
    | succ i => exact ih i (by simpa using h1) (by simpa using h2)
theorem LeR.map {α : Type} {f g : α → AV} (h : ∀ x, LeF (f x).cells (g x).cells) : ∀ l : List α, LeR (l.map f) (l.map g) := by
  intro l
  induction l with
  | nil => exact .nil
  | cons a r ih => exact .cons (h a) ih
theorem Le.lstR {ex : Bool} {sz : Nat} {xs ys : List AV} (h : LeR xs ys) : Le (.l ex sz xs) (.l ex sz ys) :=
  Le.lst h.length.symm fun i hi => ⟨((h.at i hi (h.length ▸ hi)).length).symm, fun j => (h.at i hi (h.length ▸ hi)).getD j⟩
/-- Lent arguments, taken for others. -/
theorem CallK.lendL {P : Program} {f : FuncId} {args args' : List AV} {h : Hp} {r : AV} {K : AV → Hp → Prop} (Ls : List Lab) (hp : PureF P f args' r) (ha : LeF (lendA Ls h args) args') (hr : r.sn h) (hk : K r h) : CallK P f args h K := by
  refine CallK.lendG Ls (CallK.leArg ha.length (fun i hi => ?_) ((hp h.bare).mono ?_))
  · have := ha.getD i
    have h1 : i < args'.length := ha.length ▸ hi
    rw [List.getD_eq_getElem?_getD, List.getD_eq_getElem?_getD, List.getElem?_eq_getElem hi, List.getElem?_eq_getElem h1] at this ⊢
    exact this
  · rintro r' H ⟨rfl, rfl⟩
    exact ⟨hr, fun L _ => trivial, fun hle => by rw [merge_bare]; exact hk⟩
end Go.T
