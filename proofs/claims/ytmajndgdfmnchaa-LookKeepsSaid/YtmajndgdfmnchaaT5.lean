/- Part of a proof: a small logic of programs over plain values, shown sound for the given machine. -/
import Derived.Test.YtmajndgdfmnchaaT4
/- A function that answers a list of its own: the contract that says so, and the one that forgets it. -/
namespace Go.T
open Go
theorem Keeps.trans {h H H' : Hp} (k : Keeps h H) (k' : Keeps H H') : Keeps h H' := by
  intro M
  rcases k M with h1 | h1
  · exact .inl h1
  · rcases k' M with h2 | h2
    · left; rw [← h1]; exact h2
    · right; rw [h2, h1]
/-- What was gathered is answered. -/
def OwnR (sz : Nat) (xs : List AV) (h : Hp) (v : AV) (H : Hp) : Prop := Acc h H sz v xs ∧ Keeps h H
theorem PureF.ofOwn {P : Program} {f : FuncId} {args : List AV} {sz : Nat} {xs : List AV} (hc : ∀ h, CallK P f args h (OwnR sz xs h)) (hl : AV.lfs xs = true) : PureF P f args (.l false sz xs) := by
  intro h
  refine CallK.pure (K := fun r => r = .l false sz xs) (CallK.frz ((hc h).mono ?_))
  rintro v H ⟨ga, gk⟩
  obtain ⟨H', f1, k1⟩ := ga.frz gk
  exact ⟨H', _, f1, by simpa [AV.lf] using hl, k1, rfl⟩
/-- The same at one heap. -/
theorem CallK.ofOwn {P : Program} {f : FuncId} {args : List AV} {h : Hp} {sz : Nat} {xs : List AV} {K : AV → Hp → Prop} (hc : CallK P f args h (OwnR sz xs h)) (hk : ∀ v H, Acc h H sz v xs → Keeps h H → K v H) : CallK P f args h K :=
  hc.mono fun v H ⟨a, k⟩ => hk v H a k
theorem Acc.own' {h H : Hp} {sz : Nat} {L : Lab} {xs : List AV} (a : Acc h H sz (.os L) xs) : H.con L = .arr sz xs ∧ h.con L = .none := by
  cases a with
  | own L xs hc hL => exact ⟨hc, hL⟩
end Go.T
