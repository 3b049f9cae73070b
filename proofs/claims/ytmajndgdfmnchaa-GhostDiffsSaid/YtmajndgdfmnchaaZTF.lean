/- Looking for an element. -/
import Derived.Test.YtmajndgdfmnchaaZTE
namespace Go.Proofs.Ytmajndgdfmnchaa
open Go Go.T Go.Gh Go.Proofs
set_option linter.unusedSimpArgs false
set_option maxRecDepth 10000 in
theorem f125_at {g : Nat} {caps : List AV} (p : Msg → Bool) (ns : List Msg) (ex : Bool) (hlen : ns.length < 2 ^ 61) (h : Hp) (hb : hasBody Try.prog g = true)
    (hf : ∀ x ∈ ns, CallK Try.prog g ([encM x] ++ caps) h (fun r h' => r = .bool (p x) ∧ h' = h)) :
    CallK Try.prog 125 [.l ex 5 (ns.map encM), .fn (.func g) caps] h (fun r h' => r = .int .i64 (idxP p ns) ∧ h' = h) := by
  refine PureAt.of_awp mixed (fun _ => []) (fn := Try.f125) (by kernel_rfl) rfl (by kernel_rfl) (by show 2 ≤ _; decide) (by simp [AV.lf]) ?_
  simp only [go_sem, Nat.reduceAdd, Nat.reduceBEq, Nat.reduceEqDiff, Nat.reduceLeDiff, Nat.reduceLT, Nat.reduceSub]
  rw [awp_loop]
  refine ⟨fun s => ∃ i : Nat, i ≤ ns.length ∧ s.slots 0 = .l ex 5 (ns.map encM) ∧ s.slots 1 = .fn (.func g) caps ∧ s.slots 7 = .int .i64 ns.length ∧ s.slots 8 = .int .i64 i ∧ (∀ x ∈ ns.take i, p x = false) ∧ s.hp = h,
    fun s => match s.slots 8 with | .int _ i => (ns.length - i).toNat | _ => 0, ?_, ?_⟩
  · refine ⟨0, ?_⟩
    simp only [go_sem, Nat.reduceAdd, Nat.reduceBEq, Nat.reduceEqDiff, Nat.reduceLeDiff, Nat.reduceLT, Nat.reduceSub]
    exact ⟨by omega, rfl, fun x hx => by simp at hx⟩
  · rintro s ⟨i, hi, h0, h1, h7, h8, hn, hE⟩
    by_cases hlt : i < ns.length
    · have d0 : decide ((i : Int) < ns.length) = true := by simpa using hlt
      have hw : IntKind.i64.wrap ((i : Int) + 1) = ((i + 1 : Nat) : Int) := wrapS (by omega)
      have hdec : (((ns.length : Int) - ((i + 1 : Nat) : Int)).toNat < ((ns.length : Int) - (i : Int)).toNat) := by omega
      simp only [go_sem, d0, hw, h0, h1, h7, h8, hE, hb, encM_cells, Nat.reduceAdd, Nat.reduceBEq, Nat.reduceEqDiff, Nat.reduceLeDiff, Nat.reduceLT, Nat.reduceSub]
      refine ⟨by omega, hlt, CallX.at (hf ns[i] (List.getElem_mem hlt)) ?_⟩
      cases hp : p ns[i]
      · simp only [go_sem, hp, d0, hw, h0, h1, h7, h8, hE, hb, encM_cells, Nat.reduceAdd, Nat.reduceBEq, Nat.reduceEqDiff, Nat.reduceLeDiff, Nat.reduceLT, Nat.reduceSub]
        refine ⟨⟨i + 1, hlt, rfl, fun x hx => ?_⟩, hdec⟩
        rw [List.take_succ_eq_append_getElem hlt] at hx
        rcases List.mem_append.1 hx with hx | hx
        · exact hn x hx
        · simp at hx; rw [hx]; exact hp
      · have hr := idxP_at p ns i hlt hp hn
        simp only [go_sem, hp, hr, d0, hw, h0, h1, h7, h8, hE, hb, encM_cells, Nat.reduceAdd, Nat.reduceBEq, Nat.reduceEqDiff, Nat.reduceLeDiff, Nat.reduceLT, Nat.reduceSub]
        exact Keeps.refl h
    · have d0 : decide ((i : Int) < ns.length) = false := by simpa using hlt
      have : i = ns.length := by omega
      subst this
      rw [List.take_length] at hn
      have hr := idxP_none p ns hn
      simp only [go_sem, hr, d0, h0, h1, h7, h8, hE, Nat.reduceAdd, Nat.reduceBEq, Nat.reduceEqDiff, Nat.reduceLeDiff, Nat.reduceLT, Nat.reduceSub]
      exact Keeps.refl h
theorem f125_spec {g : Nat} {caps : List AV} (p : Msg → Bool) (ns : List Msg) (ex : Bool) (hlen : ns.length < 2 ^ 61) (hb : hasBody Try.prog g = true)
    (hf : ∀ x ∈ ns, PureF Try.prog g ([encM x] ++ caps) (.bool (p x))) : PureF Try.prog 125 [.l ex 5 (ns.map encM), .fn (.func g) caps] (.int .i64 (idxP p ns)) :=
  fun h => f125_at p ns ex hlen h hb (fun x hx => hf x hx h)
theorem f109_spec {g : Nat} {caps : List AV} (p : Msg → Bool) (ns : List Msg) (ex : Bool) (hlen : ns.length < 2 ^ 61) (hb : hasBody Try.prog g = true)
    (hf : ∀ x ∈ ns, PureF Try.prog g ([encM x] ++ caps) (.bool (p x))) : PureF Try.prog 109 [.l ex 5 (ns.map encM), .fn (.func g) caps] (.bool (ns.any p)) := by
  refine PureF.of_awp mixed (fun _ => []) (fn := Try.f109) (by kernel_rfl) rfl (by kernel_rfl) (by show 2 ≤ _; decide) (by simp [AV.lf]) (fun h => ?_)
  simp only [go_sem, I_eq, I_cells, Nat.reduceAdd, Nat.reduceBEq, Nat.reduceEqDiff, Nat.reduceLeDiff, Nat.reduceLT, Nat.reduceSub]
  refine CallX.pure (f125_spec p ns ex hlen hb hf) ?_
  simp only [go_sem, I_eq, I_cells, Nat.reduceAdd, Nat.reduceBEq, Nat.reduceEqDiff, Nat.reduceLeDiff, Nat.reduceLT, Nat.reduceSub]
  exact ⟨by rw [idxP_any], Keeps.refl h⟩
set_option maxRecDepth 10000 in
theorem f96_at {g : Nat} {caps : List AV} (p : Int → Bool) (ns : List Int) (ex : Bool) (hlen : ns.length < 2 ^ 61) (h : Hp) (hb : hasBody Try.prog g = true)
    (hf : ∀ x ∈ ns, CallK Try.prog g ([I x] ++ caps) h (fun r h' => r = .bool (p x) ∧ h' = h)) :
    CallK Try.prog 96 [.l ex 1 (ns.map I), .fn (.func g) caps] h (fun r h' => r = .int .i64 (idxP p ns) ∧ h' = h) := by
  refine PureAt.of_awp mixed (fun _ => []) (fn := Try.f96) (by kernel_rfl) rfl (by kernel_rfl) (by show 2 ≤ _; decide) (by simp [AV.lf]) ?_
  simp only [go_sem, Nat.reduceAdd, Nat.reduceBEq, Nat.reduceEqDiff, Nat.reduceLeDiff, Nat.reduceLT, Nat.reduceSub]
  rw [awp_loop]
  refine ⟨fun s => ∃ i : Nat, i ≤ ns.length ∧ s.slots 0 = .l ex 1 (ns.map I) ∧ s.slots 1 = .fn (.func g) caps ∧ s.slots 7 = .int .i64 ns.length ∧ s.slots 8 = .int .i64 i ∧ (∀ x ∈ ns.take i, p x = false) ∧ s.hp = h,
    fun s => match s.slots 8 with | .int _ i => (ns.length - i).toNat | _ => 0, ?_, ?_⟩
  · refine ⟨0, ?_⟩
    simp only [go_sem, Nat.reduceAdd, Nat.reduceBEq, Nat.reduceEqDiff, Nat.reduceLeDiff, Nat.reduceLT, Nat.reduceSub]
    exact ⟨by omega, rfl, fun x hx => by simp at hx⟩
  · rintro s ⟨i, hi, h0, h1, h7, h8, hn, hE⟩
    by_cases hlt : i < ns.length
    · have d0 : decide ((i : Int) < ns.length) = true := by simpa using hlt
      have hw : IntKind.i64.wrap ((i : Int) + 1) = ((i + 1 : Nat) : Int) := wrapS (by omega)
      have hdec : (((ns.length : Int) - ((i + 1 : Nat) : Int)).toNat < ((ns.length : Int) - (i : Int)).toNat) := by omega
      simp only [go_sem, d0, hw, h0, h1, h7, h8, hE, hb, I_cells, I_eq, Nat.reduceAdd, Nat.reduceBEq, Nat.reduceEqDiff, Nat.reduceLeDiff, Nat.reduceLT, Nat.reduceSub]
      refine ⟨by omega, hlt, CallX.at (hf ns[i] (List.getElem_mem hlt)) ?_⟩
      cases hp : p ns[i]
      · simp only [go_sem, hp, d0, hw, h0, h1, h7, h8, hE, hb, I_cells, I_eq, Nat.reduceAdd, Nat.reduceBEq, Nat.reduceEqDiff, Nat.reduceLeDiff, Nat.reduceLT, Nat.reduceSub]
        refine ⟨⟨i + 1, hlt, rfl, fun x hx => ?_⟩, hdec⟩
        rw [List.take_succ_eq_append_getElem hlt] at hx
        rcases List.mem_append.1 hx with hx | hx
        · exact hn x hx
        · simp at hx; rw [hx]; exact hp
      · have hr := idxP_at p ns i hlt hp hn
        simp only [go_sem, hp, hr, d0, hw, h0, h1, h7, h8, hE, hb, I_cells, I_eq, Nat.reduceAdd, Nat.reduceBEq, Nat.reduceEqDiff, Nat.reduceLeDiff, Nat.reduceLT, Nat.reduceSub]
        exact Keeps.refl h
    · have d0 : decide ((i : Int) < ns.length) = false := by simpa using hlt
      have : i = ns.length := by omega
      subst this
      rw [List.take_length] at hn
      have hr := idxP_none p ns hn
      simp only [go_sem, hr, d0, h0, h1, h7, h8, hE, Nat.reduceAdd, Nat.reduceBEq, Nat.reduceEqDiff, Nat.reduceLeDiff, Nat.reduceLT, Nat.reduceSub]
      exact Keeps.refl h
theorem f96_spec {g : Nat} {caps : List AV} (p : Int → Bool) (ns : List Int) (ex : Bool) (hlen : ns.length < 2 ^ 61) (hb : hasBody Try.prog g = true)
    (hf : ∀ x ∈ ns, PureF Try.prog g ([I x] ++ caps) (.bool (p x))) : PureF Try.prog 96 [.l ex 1 (ns.map I), .fn (.func g) caps] (.int .i64 (idxP p ns)) :=
  fun h => f96_at p ns ex hlen h hb (fun x hx => hf x hx h)
theorem f65_spec {g : Nat} {caps : List AV} (p : Int → Bool) (ns : List Int) (ex : Bool) (hlen : ns.length < 2 ^ 61) (hb : hasBody Try.prog g = true)
    (hf : ∀ x ∈ ns, PureF Try.prog g ([I x] ++ caps) (.bool (p x))) : PureF Try.prog 65 [.l ex 1 (ns.map I), .fn (.func g) caps] (.bool (ns.any p)) := by
  refine PureF.of_awp mixed (fun _ => []) (fn := Try.f65) (by kernel_rfl) rfl (by kernel_rfl) (by show 2 ≤ _; decide) (by simp [AV.lf]) (fun h => ?_)
  simp only [go_sem, I_eq, I_cells, Nat.reduceAdd, Nat.reduceBEq, Nat.reduceEqDiff, Nat.reduceLeDiff, Nat.reduceLT, Nat.reduceSub]
  refine CallX.pure (f96_spec p ns ex hlen hb hf) ?_
  simp only [go_sem, I_eq, I_cells, Nat.reduceAdd, Nat.reduceBEq, Nat.reduceEqDiff, Nat.reduceLeDiff, Nat.reduceLT, Nat.reduceSub]
  exact ⟨by rw [idxP_any], Keeps.refl h⟩
end Go.Proofs.Ytmajndgdfmnchaa
