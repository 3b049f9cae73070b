/- Part of a proof: what functions of the given program compute, and plain laws of it. -/
import Derived.Test.YtmajndgdfmnchaaZ8
import Derived.Test.YtmajndgdfmnchaaT3
/- Messages. -/
namespace Go.Proofs.Ytmajndgdfmnchaa
open Go Go.T Go.Gh Go.Proofs
set_option linter.unusedSimpArgs false
def encM (m : Msg) : AV := .agg [.int .i64 m.kind, .int .i64 m.obj, .int .i64 m.node, .int .i64 m.num, .int .i64 m.where']
theorem encM_cells (m : Msg) : (encM m).cells = [.int .i64 m.kind, .int .i64 m.obj, .int .i64 m.node, .int .i64 m.num, .int .i64 m.where'] := by simp [encM, AV.cells]
theorem f126_spec (x lo hi : Int) : PureF Try.prog 126 [.int .i64 x, .int .i64 lo, .int .i64 hi] (.bool (withinB x lo hi)) := by
  refine PureF.of_awp mixed (fun _ => []) (fn := Try.f126) (by kernel_rfl) rfl (by kernel_rfl) (by show 3 ≤ _; decide) (by simp [AV.lf]) (fun h => ?_)
  cases b1 : decide (x ≥ lo)
  · simp only [go_sem, I_eq, I_cells, b1, Nat.reduceAdd, Nat.reduceBEq, Nat.reduceEqDiff, Nat.reduceLeDiff, Nat.reduceLT, Nat.reduceSub]
    simp only [ge_iff_le] at b1
    exact ⟨by simp [withinB, b1], Keeps.refl h⟩
  · simp only [go_sem, I_eq, I_cells, b1, Nat.reduceAdd, Nat.reduceBEq, Nat.reduceEqDiff, Nat.reduceLeDiff, Nat.reduceLT, Nat.reduceSub]
    simp only [ge_iff_le] at b1
    exact ⟨by simp [withinB, b1], Keeps.refl h⟩
set_option maxRecDepth 10000 in
theorem f115_spec (m : Msg) : PureF Try.prog 115 [encM m] (.bool (validB m)) := by
  refine PureF.of_awp mixed (fun _ => []) (fn := Try.f115) (by kernel_rfl) rfl (by kernel_rfl) (by show 1 ≤ _; decide) (by simp [AV.lf]) (fun h => ?_)
  have hk := (Keeps.refl h).alloc 115 1 (.blk (encM m).cells)
  rcases Bool.eq_false_or_eq_true (decide (m.kind < 1)) with c1 | c1
  · simp only [go_sem, I_eq, I_cells, encM, encM_cells, c1, Nat.reduceAdd, Nat.reduceBEq, Nat.reduceEqDiff, Nat.reduceLeDiff, Nat.reduceLT, Nat.reduceSub]
    refine ⟨?_, by simpa only [encM_cells] using hk⟩
    simp only [decide_eq_true_eq, decide_eq_false_iff_not] at c1
    congr 1; symm; simp [validB, withinB]; omega
  rcases Bool.eq_false_or_eq_true (decide (m.kind > 4)) with c2 | c2
  · simp only [go_sem, I_eq, I_cells, encM, encM_cells, c1, c2, Nat.reduceAdd, Nat.reduceBEq, Nat.reduceEqDiff, Nat.reduceLeDiff, Nat.reduceLT, Nat.reduceSub]
    refine ⟨?_, by simpa only [encM_cells] using hk⟩
    simp only [decide_eq_true_eq, decide_eq_false_iff_not] at c1 c2
    congr 1; symm; simp [validB, withinB]; omega
  rcases Bool.eq_false_or_eq_true (decide (m.obj < 0)) with c3 | c3
  · simp only [go_sem, I_eq, I_cells, encM, encM_cells, c1, c2, c3, Nat.reduceAdd, Nat.reduceBEq, Nat.reduceEqDiff, Nat.reduceLeDiff, Nat.reduceLT, Nat.reduceSub]
    refine ⟨?_, by simpa only [encM_cells] using hk⟩
    simp only [decide_eq_true_eq, decide_eq_false_iff_not] at c1 c2 c3
    congr 1; symm; simp [validB, withinB]; omega
  rcases Bool.eq_false_or_eq_true (decide (m.obj ≥ 8)) with c4 | c4
  · simp only [go_sem, I_eq, I_cells, encM, encM_cells, c1, c2, c3, c4, Nat.reduceAdd, Nat.reduceBEq, Nat.reduceEqDiff, Nat.reduceLeDiff, Nat.reduceLT, Nat.reduceSub]
    refine ⟨?_, by simpa only [encM_cells] using hk⟩
    simp only [decide_eq_true_eq, decide_eq_false_iff_not] at c1 c2 c3 c4
    congr 1; symm; simp [validB, withinB]; omega
  rcases Bool.eq_false_or_eq_true (decide (m.node < 0)) with c5 | c5
  · simp only [go_sem, I_eq, I_cells, encM, encM_cells, c1, c2, c3, c4, c5, Nat.reduceAdd, Nat.reduceBEq, Nat.reduceEqDiff, Nat.reduceLeDiff, Nat.reduceLT, Nat.reduceSub]
    refine ⟨?_, by simpa only [encM_cells] using hk⟩
    simp only [decide_eq_true_eq, decide_eq_false_iff_not] at c1 c2 c3 c4 c5
    congr 1; symm; simp [validB, withinB]; omega
  rcases Bool.eq_false_or_eq_true (decide (m.node ≥ 32)) with c6 | c6
  · simp only [go_sem, I_eq, I_cells, encM, encM_cells, c1, c2, c3, c4, c5, c6, Nat.reduceAdd, Nat.reduceBEq, Nat.reduceEqDiff, Nat.reduceLeDiff, Nat.reduceLT, Nat.reduceSub]
    refine ⟨?_, by simpa only [encM_cells] using hk⟩
    simp only [decide_eq_true_eq, decide_eq_false_iff_not] at c1 c2 c3 c4 c5 c6
    congr 1; symm; simp [validB, withinB]; omega
  rcases Bool.eq_false_or_eq_true (decide (m.num < 1)) with c7 | c7
  · simp only [go_sem, I_eq, I_cells, encM, encM_cells, c1, c2, c3, c4, c5, c6, c7, Nat.reduceAdd, Nat.reduceBEq, Nat.reduceEqDiff, Nat.reduceLeDiff, Nat.reduceLT, Nat.reduceSub]
    refine ⟨?_, by simpa only [encM_cells] using hk⟩
    simp only [decide_eq_true_eq, decide_eq_false_iff_not] at c1 c2 c3 c4 c5 c6 c7
    congr 1; symm; simp [validB, withinB]; omega
  rcases Bool.eq_false_or_eq_true (decide (m.num > 1099511627776)) with c8 | c8
  · simp only [go_sem, I_eq, I_cells, encM, encM_cells, c1, c2, c3, c4, c5, c6, c7, c8, Nat.reduceAdd, Nat.reduceBEq, Nat.reduceEqDiff, Nat.reduceLeDiff, Nat.reduceLT, Nat.reduceSub]
    refine ⟨?_, by simpa only [encM_cells] using hk⟩
    simp only [decide_eq_true_eq, decide_eq_false_iff_not] at c1 c2 c3 c4 c5 c6 c7 c8
    congr 1; symm; simp [validB, withinB]; omega
  simp only [go_sem, I_eq, I_cells, encM, encM_cells, c1, c2, c3, c4, c5, c6, c7, c8, Nat.reduceAdd, Nat.reduceBEq, Nat.reduceEqDiff, Nat.reduceLeDiff, Nat.reduceLT, Nat.reduceSub]
  simp only [decide_eq_true_eq, decide_eq_false_iff_not] at c1 c2 c3 c4 c5 c6 c7 c8
  have hv : validB m = (if m.kind = 4 then withinB m.where' 0 31 else decide (m.where' = 0)) := by
    have h1 : (withinB m.kind 1 4 && withinB m.obj 0 7 && withinB m.node 0 31 && withinB m.num 1 1099511627776) = true := by simp [withinB]; omega
    unfold validB; rw [h1, Bool.true_and]
  have hk' := hk; rw [encM_cells] at hk'
  rw [hv]
  refine ⟨fun c9 => ⟨?_, hk'⟩, fun c9 => ⟨fun c10 => ⟨?_, hk'⟩, fun c10 => ⟨?_, hk'⟩⟩⟩
  all_goals simp only [bne_iff_ne, ne_eq, bne_eq_false_iff_eq] at c9
  · rw [if_neg c9]; congr 1
  · rw [if_pos c9]; simp only [ge_iff_le] at c10; congr 1; simp [withinB, c10]; omega
  · rw [if_pos c9]; simp only [ge_iff_le] at c10; congr 1; simp [withinB, c10]
set_option maxRecDepth 10000 in
theorem f114_spec (m : Msg) : PureF Try.prog 114 [encM m] (.bool (validB m)) := by
  refine PureF.of_awp mixed (fun _ => []) (fn := Try.f114) (by kernel_rfl) rfl (by kernel_rfl) (by show 1 ≤ _; decide) (by simp [AV.lf]) (fun h => ?_)
  have hk := (Keeps.refl h).alloc 114 1 (.blk (encM m).cells)
  rw [encM_cells] at hk
  simp only [go_sem, I_eq, I_cells, encM, encM_cells, Nat.reduceAdd, Nat.reduceBEq, Nat.reduceEqDiff, Nat.reduceLeDiff, Nat.reduceLT, Nat.reduceSub]
  refine CallX.pure (f126_spec _ _ _) ?_
  cases c1 : withinB m.kind 1 4
  · simp only [go_sem, I_eq, I_cells, c1, Nat.reduceAdd, Nat.reduceBEq, Nat.reduceEqDiff, Nat.reduceLeDiff, Nat.reduceLT, Nat.reduceSub]
    exact ⟨by simp only [validB, c1, Bool.false_and], hk⟩
  simp only [go_sem, I_eq, I_cells, c1, Nat.reduceAdd, Nat.reduceBEq, Nat.reduceEqDiff, Nat.reduceLeDiff, Nat.reduceLT, Nat.reduceSub]
  refine CallX.pure (f126_spec _ _ _) ?_
  cases c2 : withinB m.obj 0 7
  · simp only [go_sem, I_eq, I_cells, c1, c2, Nat.reduceAdd, Nat.reduceBEq, Nat.reduceEqDiff, Nat.reduceLeDiff, Nat.reduceLT, Nat.reduceSub]
    exact ⟨by simp only [validB, c1, c2, Bool.false_and, Bool.true_and], hk⟩
  simp only [go_sem, I_eq, I_cells, c1, c2, Nat.reduceAdd, Nat.reduceBEq, Nat.reduceEqDiff, Nat.reduceLeDiff, Nat.reduceLT, Nat.reduceSub]
  refine CallX.pure (f126_spec _ _ _) ?_
  cases c3 : withinB m.node 0 31
  · simp only [go_sem, I_eq, I_cells, c1, c2, c3, Nat.reduceAdd, Nat.reduceBEq, Nat.reduceEqDiff, Nat.reduceLeDiff, Nat.reduceLT, Nat.reduceSub]
    exact ⟨by simp only [validB, c1, c2, c3, Bool.false_and, Bool.true_and], hk⟩
  simp only [go_sem, I_eq, I_cells, c1, c2, c3, Nat.reduceAdd, Nat.reduceBEq, Nat.reduceEqDiff, Nat.reduceLeDiff, Nat.reduceLT, Nat.reduceSub]
  refine CallX.pure (f126_spec _ _ _) ?_
  cases c4 : withinB m.num 1 1099511627776
  · simp only [go_sem, I_eq, I_cells, c1, c2, c3, c4, Nat.reduceAdd, Nat.reduceBEq, Nat.reduceEqDiff, Nat.reduceLeDiff, Nat.reduceLT, Nat.reduceSub]
    exact ⟨by simp only [validB, c1, c2, c3, c4, Bool.false_and, Bool.true_and], hk⟩
  simp only [go_sem, I_eq, I_cells, c1, c2, c3, c4, Nat.reduceAdd, Nat.reduceBEq, Nat.reduceEqDiff, Nat.reduceLeDiff, Nat.reduceLT, Nat.reduceSub]
  refine ⟨fun c5 => CallX.pure (f126_spec _ _ _) ?_, fun c5 => ?_⟩
  · simp only [go_sem, I_eq, I_cells, Nat.reduceAdd, Nat.reduceBEq, Nat.reduceEqDiff, Nat.reduceLeDiff, Nat.reduceLT, Nat.reduceSub]
    simp only [beq_iff_eq] at c5
    exact ⟨by unfold validB; rw [c1, c2, c3, c4, if_pos c5]; rfl, hk⟩
  · simp only [beq_eq_false_iff_ne] at c5
    exact ⟨by unfold validB; rw [c1, c2, c3, c4, if_neg c5]; rfl, hk⟩
end Go.Proofs.Ytmajndgdfmnchaa
/- Looking for an element. -/
namespace Go.Proofs.Ytmajndgdfmnchaa
open Go Go.T Go.Gh Go.Proofs
set_option linter.unusedSimpArgs false
set_option maxRecDepth 10000 in
theorem f125_at {g : Nat} {caps : List AV} (p : Msg → Bool) (ns : List Msg) (ex : Bool) (hlen : ns.length < 2 ^ 61) (h : Hp) (hb : hasBody Try.prog g = true)
    (hf : ∀ x ∈ ns, CallK Try.prog g ([encM x] ++ caps) h (fun r h' => r = .bool (p x) ∧ h' = h)) :
    CallK Try.prog 125 [.l ex 5 (ns.map encM), .fn (.func g) caps] h (fun r h' => r = .int .i64 (idxP p ns) ∧ h' = h) := by
  refine PureAt.of_awp mixed (fun _ => []) (fn := Try.f125) (by kernel_rfl) rfl (by kernel_rfl) (by show 2 ≤ _; decide) (by simp [AV.lf]) ?_
  simp only [go_sem, Nat.reduceAdd, Nat.reduceBEq, Nat.reduceEqDiff, Nat.reduceLeDiff, Nat.reduceLT, Nat.reduceSub]
  rw [awp_loop]
  refine ⟨fun s => ∃ i : Nat, i ≤ ns.length ∧ s.slots 0 = .l ex 5 (ns.map encM) ∧ s.slots 1 = .fn (.func g) caps ∧ s.slots 7 = .int .i64 ns.length ∧ s.slots 8 = .int .i64 i ∧ (∀ x ∈ ns.take i, p x = false) ∧ s.hp = h,
    fun s => match s.slots 8 with | .int _ i => (ns.length - i).toNat | _ => 0, ?_, ?_⟩
  · refine ⟨0, ?_⟩
    simp only [go_sem, Nat.reduceAdd, Nat.reduceBEq, Nat.reduceEqDiff, Nat.reduceLeDiff, Nat.reduceLT, Nat.reduceSub]
    exact ⟨by omega, rfl, fun x hx => by simp at hx⟩
  · rintro s ⟨i, hi, h0, h1, h7, h8, hn, hE⟩
    by_cases hlt : i < ns.length
    · have d0 : decide ((i : Int) < ns.length) = true := by simpa using hlt
      have hw : IntKind.i64.wrap ((i : Int) + 1) = ((i + 1 : Nat) : Int) := wrapS (by omega)
      have hdec : (((ns.length : Int) - ((i + 1 : Nat) : Int)).toNat < ((ns.length : Int) - (i : Int)).toNat) := by omega
      simp only [go_sem, d0, hw, h0, h1, h7, h8, hE, hb, encM_cells, Nat.reduceAdd, Nat.reduceBEq, Nat.reduceEqDiff, Nat.reduceLeDiff, Nat.reduceLT, Nat.reduceSub]
      refine ⟨by omega, hlt, CallX.at (hf ns[i] (List.getElem_mem hlt)) ?_⟩
      cases hp : p ns[i]
      · simp only [go_sem, hp, d0, hw, h0, h1, h7, h8, hE, hb, encM_cells, Nat.reduceAdd, Nat.reduceBEq, Nat.reduceEqDiff, Nat.reduceLeDiff, Nat.reduceLT, Nat.reduceSub]
        refine ⟨⟨i + 1, hlt, rfl, fun x hx => ?_⟩, hdec⟩
        rw [List.take_succ_eq_append_getElem hlt] at hx
        rcases List.mem_append.1 hx with hx | hx
        · exact hn x hx
        · simp at hx; rw [hx]; exact hp
      · have hr := idxP_at p ns i hlt hp hn
        simp only [go_sem, hp, hr, d0, hw, h0, h1, h7, h8, hE, hb, encM_cells, Nat.reduceAdd, Nat.reduceBEq, Nat.reduceEqDiff, Nat.reduceLeDiff, Nat.reduceLT, Nat.reduceSub]
        exact Keeps.refl h
    · have d0 : decide ((i : Int) < ns.length) = false := by simpa using hlt
      have : i = ns.length := by omega
      subst this
      rw [List.take_length] at hn
      have hr := idxP_none p ns hn
      simp only [go_sem, hr, d0, h0, h1, h7, h8, hE, Nat.reduceAdd, Nat.reduceBEq, Nat.reduceEqDiff, Nat.reduceLeDiff, Nat.reduceLT, Nat.reduceSub]
      exact Keeps.refl h
theorem f125_spec {g : Nat} {caps : List AV} (p : Msg → Bool) (ns : List Msg) (ex : Bool) (hlen : ns.length < 2 ^ 61) (hb : hasBody Try.prog g = true)
    (hf : ∀ x ∈ ns, PureF Try.prog g ([encM x] ++ caps) (.bool (p x))) : PureF Try.prog 125 [.l ex 5 (ns.map encM), .fn (.func g) caps] (.int .i64 (idxP p ns)) :=
  fun h => f125_at p ns ex hlen h hb (fun x hx => hf x hx h)
theorem f109_spec {g : Nat} {caps : List AV} (p : Msg → Bool) (ns : List Msg) (ex : Bool) (hlen : ns.length < 2 ^ 61) (hb : hasBody Try.prog g = true)
    (hf : ∀ x ∈ ns, PureF Try.prog g ([encM x] ++ caps) (.bool (p x))) : PureF Try.prog 109 [.l ex 5 (ns.map encM), .fn (.func g) caps] (.bool (ns.any p)) := by
  refine PureF.of_awp mixed (fun _ => []) (fn := Try.f109) (by kernel_rfl) rfl (by kernel_rfl) (by show 2 ≤ _; decide) (by simp [AV.lf]) (fun h => ?_)
  simp only [go_sem, I_eq, I_cells, Nat.reduceAdd, Nat.reduceBEq, Nat.reduceEqDiff, Nat.reduceLeDiff, Nat.reduceLT, Nat.reduceSub]
  refine CallX.pure (f125_spec p ns ex hlen hb hf) ?_
  simp only [go_sem, I_eq, I_cells, Nat.reduceAdd, Nat.reduceBEq, Nat.reduceEqDiff, Nat.reduceLeDiff, Nat.reduceLT, Nat.reduceSub]
  exact ⟨by rw [idxP_any], Keeps.refl h⟩
set_option maxRecDepth 10000 in
theorem f96_at {g : Nat} {caps : List AV} (p : Int → Bool) (ns : List Int) (ex : Bool) (hlen : ns.length < 2 ^ 61) (h : Hp) (hb : hasBody Try.prog g = true)
    (hf : ∀ x ∈ ns, CallK Try.prog g ([I x] ++ caps) h (fun r h' => r = .bool (p x) ∧ h' = h)) :
    CallK Try.prog 96 [.l ex 1 (ns.map I), .fn (.func g) caps] h (fun r h' => r = .int .i64 (idxP p ns) ∧ h' = h) := by
  refine PureAt.of_awp mixed (fun _ => []) (fn := Try.f96) (by kernel_rfl) rfl (by kernel_rfl) (by show 2 ≤ _; decide) (by simp [AV.lf]) ?_
  simp only [go_sem, Nat.reduceAdd, Nat.reduceBEq, Nat.reduceEqDiff, Nat.reduceLeDiff, Nat.reduceLT, Nat.reduceSub]
  rw [awp_loop]
  refine ⟨fun s => ∃ i : Nat, i ≤ ns.length ∧ s.slots 0 = .l ex 1 (ns.map I) ∧ s.slots 1 = .fn (.func g) caps ∧ s.slots 7 = .int .i64 ns.length ∧ s.slots 8 = .int .i64 i ∧ (∀ x ∈ ns.take i, p x = false) ∧ s.hp = h,
    fun s => match s.slots 8 with | .int _ i => (ns.length - i).toNat | _ => 0, ?_, ?_⟩
  · refine ⟨0, ?_⟩
    simp only [go_sem, Nat.reduceAdd, Nat.reduceBEq, Nat.reduceEqDiff, Nat.reduceLeDiff, Nat.reduceLT, Nat.reduceSub]
    exact ⟨by omega, rfl, fun x hx => by simp at hx⟩
  · rintro s ⟨i, hi, h0, h1, h7, h8, hn, hE⟩
    by_cases hlt : i < ns.length
    · have d0 : decide ((i : Int) < ns.length) = true := by simpa using hlt
      have hw : IntKind.i64.wrap ((i : Int) + 1) = ((i + 1 : Nat) : Int) := wrapS (by omega)
      have hdec : (((ns.length : Int) - ((i + 1 : Nat) : Int)).toNat < ((ns.length : Int) - (i : Int)).toNat) := by omega
      simp only [go_sem, d0, hw, h0, h1, h7, h8, hE, hb, I_cells, I_eq, Nat.reduceAdd, Nat.reduceBEq, Nat.reduceEqDiff, Nat.reduceLeDiff, Nat.reduceLT, Nat.reduceSub]
      refine ⟨by omega, hlt, CallX.at (hf ns[i] (List.getElem_mem hlt)) ?_⟩
      cases hp : p ns[i]
      · simp only [go_sem, hp, d0, hw, h0, h1, h7, h8, hE, hb, I_cells, I_eq, Nat.reduceAdd, Nat.reduceBEq, Nat.reduceEqDiff, Nat.reduceLeDiff, Nat.reduceLT, Nat.reduceSub]
        refine ⟨⟨i + 1, hlt, rfl, fun x hx => ?_⟩, hdec⟩
        rw [List.take_succ_eq_append_getElem hlt] at hx
        rcases List.mem_append.1 hx with hx | hx
        · exact hn x hx
        · simp at hx; rw [hx]; exact hp
      · have hr := idxP_at p ns i hlt hp hn
        simp only [go_sem, hp, hr, d0, hw, h0, h1, h7, h8, hE, hb, I_cells, I_eq, Nat.reduceAdd, Nat.reduceBEq, Nat.reduceEqDiff, Nat.reduceLeDiff, Nat.reduceLT, Nat.reduceSub]
        exact Keeps.refl h
    · have d0 : decide ((i : Int) < ns.length) = false := by simpa using hlt
      have : i = ns.length := by omega
      subst this
      rw [List.take_length] at hn
      have hr := idxP_none p ns hn
      simp only [go_sem, hr, d0, h0, h1, h7, h8, hE, Nat.reduceAdd, Nat.reduceBEq, Nat.reduceEqDiff, Nat.reduceLeDiff, Nat.reduceLT, Nat.reduceSub]
      exact Keeps.refl h
end Go.Proofs.Ytmajndgdfmnchaa
/- Sides of edges. -/
namespace Go.Proofs.Ytmajndgdfmnchaa
open Go Go.T Go.Gh Go.Proofs
set_option linter.unusedSimpArgs false
def encE (e : Sid) : AV := .agg [.int .i64 e.peer, .int .i64 e.base, .l false 5 (e.out.map encM), .int .i64 e.seen]
theorem encE_cells (e : Sid) : (encE e).cells = [.int .i64 e.peer, .int .i64 e.base, .l false 5 (e.out.map encM), .int .i64 e.seen] := by simp [encE, AV.cells]
set_option maxRecDepth 10000 in
theorem f113_spec (m : Msg) : PureF Try.prog 113 [encM m] (.bool (!validB m)) := by
  refine PureF.of_awp mixed (fun _ => []) (fn := Try.f113) (by kernel_rfl) rfl (by kernel_rfl) (by show 1 ≤ _; decide) (by simp [AV.lf]) (fun h => ?_)
  have hk := (Keeps.refl h).alloc 113 1 (.blk (encM m).cells)
  rw [encM_cells] at hk
  simp only [go_sem, I_eq, I_cells, encM, encM_cells, Nat.reduceAdd, Nat.reduceBEq, Nat.reduceEqDiff, Nat.reduceLeDiff, Nat.reduceLT, Nat.reduceSub]
  refine CallX.pure (f114_spec m) ?_
  simp only [go_sem, I_eq, I_cells, encM, encM_cells, Nat.reduceAdd, Nat.reduceBEq, Nat.reduceEqDiff, Nat.reduceLeDiff, Nat.reduceLT, Nat.reduceSub]
  exact hk
set_option maxRecDepth 10000 in
theorem f84_spec (e : Sid) : PureF Try.prog 84 [encE e] (.bool (goodE e)) := by
  refine PureF.of_awp mixed (fun _ => []) (fn := Try.f84) (by kernel_rfl) rfl (by kernel_rfl) (by show 1 ≤ _; decide) (by simp [AV.lf]) (fun h => ?_)
  have hk := (Keeps.refl h).alloc 84 1 (.blk (encE e).cells)
  rcases Bool.eq_false_or_eq_true (decide (e.peer < 0)) with c1 | c1
  · simp only [go_sem, I_eq, I_cells, encE, encE_cells, c1, Nat.reduceAdd, Nat.reduceBEq, Nat.reduceEqDiff, Nat.reduceLeDiff, Nat.reduceLT, Nat.reduceSub]
    refine ⟨?_, by simpa only [encE_cells] using hk⟩
    simp only [decide_eq_true_eq, decide_eq_false_iff_not] at c1
    congr 1; symm
    first | (simp [goodE, withinB]; omega) | (rw [IntWalk.i64_in _ (by omega)] at c8; simp [goodE, withinB]; omega)
  rcases Bool.eq_false_or_eq_true (decide (e.peer ≥ 32)) with c2 | c2
  · simp only [go_sem, I_eq, I_cells, encE, encE_cells, c1, c2, Nat.reduceAdd, Nat.reduceBEq, Nat.reduceEqDiff, Nat.reduceLeDiff, Nat.reduceLT, Nat.reduceSub]
    refine ⟨?_, by simpa only [encE_cells] using hk⟩
    simp only [decide_eq_true_eq, decide_eq_false_iff_not] at c1 c2
    congr 1; symm
    first | (simp [goodE, withinB]; omega) | (rw [IntWalk.i64_in _ (by omega)] at c8; simp [goodE, withinB]; omega)
  rcases Bool.eq_false_or_eq_true (decide (e.base < 0)) with c3 | c3
  · simp only [go_sem, I_eq, I_cells, encE, encE_cells, c1, c2, c3, Nat.reduceAdd, Nat.reduceBEq, Nat.reduceEqDiff, Nat.reduceLeDiff, Nat.reduceLT, Nat.reduceSub]
    refine ⟨?_, by simpa only [encE_cells] using hk⟩
    simp only [decide_eq_true_eq, decide_eq_false_iff_not] at c1 c2 c3
    congr 1; symm
    first | (simp [goodE, withinB]; omega) | (rw [IntWalk.i64_in _ (by omega)] at c8; simp [goodE, withinB]; omega)
  rcases Bool.eq_false_or_eq_true (decide (e.base > 1099511627776)) with c4 | c4
  · simp only [go_sem, I_eq, I_cells, encE, encE_cells, c1, c2, c3, c4, Nat.reduceAdd, Nat.reduceBEq, Nat.reduceEqDiff, Nat.reduceLeDiff, Nat.reduceLT, Nat.reduceSub]
    refine ⟨?_, by simpa only [encE_cells] using hk⟩
    simp only [decide_eq_true_eq, decide_eq_false_iff_not] at c1 c2 c3 c4
    congr 1; symm
    first | (simp [goodE, withinB]; omega) | (rw [IntWalk.i64_in _ (by omega)] at c8; simp [goodE, withinB]; omega)
  rcases Bool.eq_false_or_eq_true (decide (e.seen < 0)) with c5 | c5
  · simp only [go_sem, I_eq, I_cells, encE, encE_cells, c1, c2, c3, c4, c5, Nat.reduceAdd, Nat.reduceBEq, Nat.reduceEqDiff, Nat.reduceLeDiff, Nat.reduceLT, Nat.reduceSub]
    refine ⟨?_, by simpa only [encE_cells] using hk⟩
    simp only [decide_eq_true_eq, decide_eq_false_iff_not] at c1 c2 c3 c4 c5
    congr 1; symm
    first | (simp [goodE, withinB]; omega) | (rw [IntWalk.i64_in _ (by omega)] at c8; simp [goodE, withinB]; omega)
  rcases Bool.eq_false_or_eq_true (decide (e.seen > 1099511627776)) with c6 | c6
  · simp only [go_sem, I_eq, I_cells, encE, encE_cells, c1, c2, c3, c4, c5, c6, Nat.reduceAdd, Nat.reduceBEq, Nat.reduceEqDiff, Nat.reduceLeDiff, Nat.reduceLT, Nat.reduceSub]
    refine ⟨?_, by simpa only [encE_cells] using hk⟩
    simp only [decide_eq_true_eq, decide_eq_false_iff_not] at c1 c2 c3 c4 c5 c6
    congr 1; symm
    first | (simp [goodE, withinB]; omega) | (rw [IntWalk.i64_in _ (by omega)] at c8; simp [goodE, withinB]; omega)
  rcases Bool.eq_false_or_eq_true (decide ((e.out.length : Int) > 1024)) with c7 | c7
  · simp only [go_sem, I_eq, I_cells, encE, encE_cells, c1, c2, c3, c4, c5, c6, c7, Nat.reduceAdd, Nat.reduceBEq, Nat.reduceEqDiff, Nat.reduceLeDiff, Nat.reduceLT, Nat.reduceSub]
    refine ⟨?_, by simpa only [encE_cells] using hk⟩
    simp only [decide_eq_true_eq, decide_eq_false_iff_not] at c1 c2 c3 c4 c5 c6 c7
    congr 1; symm
    first | (simp [goodE, withinB]; omega) | (rw [IntWalk.i64_in _ (by omega)] at c8; simp [goodE, withinB]; omega)
  rcases Bool.eq_false_or_eq_true (decide ((e.out.length : Int) > IntKind.i64.wrap (1099511627776 - e.base))) with c8 | c8
  · simp only [go_sem, I_eq, I_cells, encE, encE_cells, c1, c2, c3, c4, c5, c6, c7, c8, Nat.reduceAdd, Nat.reduceBEq, Nat.reduceEqDiff, Nat.reduceLeDiff, Nat.reduceLT, Nat.reduceSub]
    refine ⟨?_, by simpa only [encE_cells] using hk⟩
    simp only [decide_eq_true_eq, decide_eq_false_iff_not] at c1 c2 c3 c4 c5 c6 c7 c8
    congr 1; symm
    first | (simp [goodE, withinB]; omega) | (rw [IntWalk.i64_in _ (by omega)] at c8; simp [goodE, withinB]; omega)
  simp only [go_sem, I_eq, I_cells, encE, encE_cells, c1, c2, c3, c4, c5, c6, c7, c8, Nat.reduceAdd, Nat.reduceBEq, Nat.reduceEqDiff, Nat.reduceLeDiff, Nat.reduceLT, Nat.reduceSub]
  refine CallX.pure (f109_spec (fun m => !validB m) e.out false (by have h7 := c7; simp only [decide_eq_false_iff_not] at h7; omega) (by kernel_rfl) (fun m _ => f113_spec m)) ?_
  simp only [go_sem, I_eq, I_cells, Nat.reduceAdd, Nat.reduceBEq, Nat.reduceEqDiff, Nat.reduceLeDiff, Nat.reduceLT, Nat.reduceSub]
  refine ⟨?_, by simpa only [encE_cells] using hk⟩
  simp only [decide_eq_true_eq, decide_eq_false_iff_not] at c1 c2 c3 c4 c5 c6 c7 c8
  rw [IntWalk.i64_in _ (by omega)] at c8
  rw [any_not]
  have h1 : (withinB e.peer 0 31 && withinB e.base 0 1099511627776 && withinB e.seen 0 1099511627776 && decide (e.out.length ≤ 1024) && decide (e.base + e.out.length ≤ 1099511627776)) = true := by simp [withinB]; omega
  unfold goodE; rw [h1, Bool.true_and]
end Go.Proofs.Ytmajndgdfmnchaa
/- The reference's sides of edges. -/
namespace Go.Proofs.Ytmajndgdfmnchaa
open Go Go.T Go.Gh Go.Proofs
set_option linter.unusedSimpArgs false
theorem all_at {α : Type} (p : α → Bool) (l : List α) (i : Nat) (hlt : i < l.length) (hp : p l[i] = false) : l.all p = false :=
  List.all_eq_false.2 ⟨l[i], List.getElem_mem hlt, by simp [hp]⟩
theorem all_take {α : Type} (p : α → Bool) (l : List α) (i : Nat) (hlt : i < l.length) (hn : (l.take i).all p = true) (hp : p l[i] = true) : (l.take (i + 1)).all p = true := by
  rw [List.take_succ_eq_append_getElem hlt, List.all_append, hn]; simp [hp]
set_option maxRecDepth 10000 in
theorem f91_spec (e : Sid) : PureF Try.prog 91 [encE e] (.bool (goodE e)) := by
  refine PureF.of_awp mixed (fun _ => []) (fn := Try.f91) (by kernel_rfl) rfl (by kernel_rfl) (by show 1 ≤ _; decide) (by simp [AV.lf]) (fun h => ?_)
  have hk := (Keeps.refl h).alloc 91 1 (.blk (encE e).cells)
  rcases Bool.eq_false_or_eq_true (decide (e.peer < 0)) with c1 | c1
  · simp only [go_sem, I_eq, I_cells, encE, encE_cells, c1, Nat.reduceAdd, Nat.reduceBEq, Nat.reduceEqDiff, Nat.reduceLeDiff, Nat.reduceLT, Nat.reduceSub]
    refine ⟨?_, by simpa only [encE_cells] using hk⟩
    simp only [decide_eq_true_eq, decide_eq_false_iff_not] at c1
    congr 1; symm
    first | (simp [goodE, withinB]; omega) | (rw [IntWalk.i64_in _ (by omega)] at c8; simp [goodE, withinB]; omega)
  rcases Bool.eq_false_or_eq_true (decide (e.peer > 31)) with c2 | c2
  · simp only [go_sem, I_eq, I_cells, encE, encE_cells, c1, c2, Nat.reduceAdd, Nat.reduceBEq, Nat.reduceEqDiff, Nat.reduceLeDiff, Nat.reduceLT, Nat.reduceSub]
    refine ⟨?_, by simpa only [encE_cells] using hk⟩
    simp only [decide_eq_true_eq, decide_eq_false_iff_not] at c1 c2
    congr 1; symm
    first | (simp [goodE, withinB]; omega) | (rw [IntWalk.i64_in _ (by omega)] at c8; simp [goodE, withinB]; omega)
  rcases Bool.eq_false_or_eq_true (decide (e.base < 0)) with c3 | c3
  · simp only [go_sem, I_eq, I_cells, encE, encE_cells, c1, c2, c3, Nat.reduceAdd, Nat.reduceBEq, Nat.reduceEqDiff, Nat.reduceLeDiff, Nat.reduceLT, Nat.reduceSub]
    refine ⟨?_, by simpa only [encE_cells] using hk⟩
    simp only [decide_eq_true_eq, decide_eq_false_iff_not] at c1 c2 c3
    congr 1; symm
    first | (simp [goodE, withinB]; omega) | (rw [IntWalk.i64_in _ (by omega)] at c8; simp [goodE, withinB]; omega)
  rcases Bool.eq_false_or_eq_true (decide (e.base > 1099511627776)) with c4 | c4
  · simp only [go_sem, I_eq, I_cells, encE, encE_cells, c1, c2, c3, c4, Nat.reduceAdd, Nat.reduceBEq, Nat.reduceEqDiff, Nat.reduceLeDiff, Nat.reduceLT, Nat.reduceSub]
    refine ⟨?_, by simpa only [encE_cells] using hk⟩
    simp only [decide_eq_true_eq, decide_eq_false_iff_not] at c1 c2 c3 c4
    congr 1; symm
    first | (simp [goodE, withinB]; omega) | (rw [IntWalk.i64_in _ (by omega)] at c8; simp [goodE, withinB]; omega)
  rcases Bool.eq_false_or_eq_true (decide (e.seen < 0)) with c5 | c5
  · simp only [go_sem, I_eq, I_cells, encE, encE_cells, c1, c2, c3, c4, c5, Nat.reduceAdd, Nat.reduceBEq, Nat.reduceEqDiff, Nat.reduceLeDiff, Nat.reduceLT, Nat.reduceSub]
    refine ⟨?_, by simpa only [encE_cells] using hk⟩
    simp only [decide_eq_true_eq, decide_eq_false_iff_not] at c1 c2 c3 c4 c5
    congr 1; symm
    first | (simp [goodE, withinB]; omega) | (rw [IntWalk.i64_in _ (by omega)] at c8; simp [goodE, withinB]; omega)
  rcases Bool.eq_false_or_eq_true (decide (e.seen > 1099511627776)) with c6 | c6
  · simp only [go_sem, I_eq, I_cells, encE, encE_cells, c1, c2, c3, c4, c5, c6, Nat.reduceAdd, Nat.reduceBEq, Nat.reduceEqDiff, Nat.reduceLeDiff, Nat.reduceLT, Nat.reduceSub]
    refine ⟨?_, by simpa only [encE_cells] using hk⟩
    simp only [decide_eq_true_eq, decide_eq_false_iff_not] at c1 c2 c3 c4 c5 c6
    congr 1; symm
    first | (simp [goodE, withinB]; omega) | (rw [IntWalk.i64_in _ (by omega)] at c8; simp [goodE, withinB]; omega)
  rcases Bool.eq_false_or_eq_true (decide ((e.out.length : Int) > 1024)) with c7 | c7
  · simp only [go_sem, I_eq, I_cells, encE, encE_cells, c1, c2, c3, c4, c5, c6, c7, Nat.reduceAdd, Nat.reduceBEq, Nat.reduceEqDiff, Nat.reduceLeDiff, Nat.reduceLT, Nat.reduceSub]
    refine ⟨?_, by simpa only [encE_cells] using hk⟩
    simp only [decide_eq_true_eq, decide_eq_false_iff_not] at c1 c2 c3 c4 c5 c6 c7
    congr 1; symm
    first | (simp [goodE, withinB]; omega) | (rw [IntWalk.i64_in _ (by omega)] at c8; simp [goodE, withinB]; omega)
  rcases Bool.eq_false_or_eq_true (decide (IntKind.i64.wrap (e.base + e.out.length) > 1099511627776)) with c8 | c8
  · simp only [go_sem, I_eq, I_cells, encE, encE_cells, c1, c2, c3, c4, c5, c6, c7, c8, Nat.reduceAdd, Nat.reduceBEq, Nat.reduceEqDiff, Nat.reduceLeDiff, Nat.reduceLT, Nat.reduceSub]
    refine ⟨?_, by simpa only [encE_cells] using hk⟩
    simp only [decide_eq_true_eq, decide_eq_false_iff_not] at c1 c2 c3 c4 c5 c6 c7 c8
    congr 1; symm
    first | (simp [goodE, withinB]; omega) | (rw [IntWalk.i64_in _ (by omega)] at c8; simp [goodE, withinB]; omega)
  simp only [go_sem, I_eq, I_cells, encE, encE_cells, c1, c2, c3, c4, c5, c6, c7, c8, Nat.reduceAdd, Nat.reduceBEq, Nat.reduceEqDiff, Nat.reduceLeDiff, Nat.reduceLT, Nat.reduceSub]
  simp only [decide_eq_true_eq, decide_eq_false_iff_not] at c1 c2 c3 c4 c5 c6 c7 c8
  rw [IntWalk.i64_in _ (by omega)] at c8
  have h1 : (withinB e.peer 0 31 && withinB e.base 0 1099511627776 && withinB e.seen 0 1099511627776 && decide (e.out.length ≤ 1024) && decide (e.base + e.out.length ≤ 1099511627776)) = true := by simp [withinB]; omega
  have hg : goodE e = e.out.all validB := by unfold goodE; rw [h1, Bool.true_and]
  refine awp_count 51 50 e.out.length (by omega) (fun i s => s.slots 49 = .l false 5 (e.out.map encM) ∧ (e.out.take i).all validB = true ∧ Keeps h s.hp) ?_ ?_ ?_ ?_ ?_
  · simp only [go_sem, I_eq, I_cells, Nat.reduceAdd, Nat.reduceBEq, Nat.reduceEqDiff, Nat.reduceLeDiff, Nat.reduceLT, Nat.reduceSub]
  · simp only [go_sem, I_eq, I_cells, Nat.reduceAdd, Nat.reduceBEq, Nat.reduceEqDiff, Nat.reduceLeDiff, Nat.reduceLT, Nat.reduceSub]
  · simp only [go_sem, I_eq, I_cells, Nat.reduceAdd, Nat.reduceBEq, Nat.reduceEqDiff, Nat.reduceLeDiff, Nat.reduceLT, Nat.reduceSub]
    simpa only [encE_cells] using hk
  · rintro i s hlt d2 hw g51 g50 ⟨g49, hn, hH⟩
    have hv := hH.var 91 4 (.blk [.int .i64 0, .int .i64 0, .int .i64 0, .int .i64 0, .int .i64 0]) (.blk (encM e.out[i]).cells)
    rw [encM_cells] at hv
    simp only [go_sem, I_eq, I_cells, d2, hw, g51, g50, g49, encM_cells, Nat.reduceAdd, Nat.reduceBEq, Nat.reduceEqDiff, Nat.reduceLeDiff, Nat.reduceLT, Nat.reduceSub]
    refine ⟨by omega, hlt, CallX.pure (f115_spec e.out[i]) ?_⟩
    cases b : validB e.out[i]
    · simp only [go_sem, I_eq, I_cells, d2, hw, g51, g50, g49, b, Nat.reduceAdd, Nat.reduceBEq, Nat.reduceEqDiff, Nat.reduceLeDiff, Nat.reduceLT, Nat.reduceSub]
      exact ⟨by rw [hg, all_at validB _ i hlt b], hv⟩
    · simp only [go_sem, I_eq, I_cells, d2, hw, g51, g50, g49, b, Nat.reduceAdd, Nat.reduceBEq, Nat.reduceEqDiff, Nat.reduceLeDiff, Nat.reduceLT, Nat.reduceSub]
      exact ⟨all_take validB _ i hlt hn b, hv⟩
  · rintro s d2 g51 g50 ⟨g49, hn, hH⟩
    simp only [go_sem, I_eq, I_cells, d2, g51, g50, g49, Nat.reduceAdd, Nat.reduceBEq, Nat.reduceEqDiff, Nat.reduceLeDiff, Nat.reduceLT, Nat.reduceSub]
    rw [List.take_length] at hn
    exact ⟨by rw [hg, hn], hH⟩
end Go.Proofs.Ytmajndgdfmnchaa
/- Chains: small functions. -/
namespace Go.Proofs.Ytmajndgdfmnchaa
open Go Go.T Go.Gh Go.Proofs
set_option linter.unusedSimpArgs false
def encC (c : Cel) : AV := .agg [.int .i64 c.num, .int .i64 c.state, .int .i64 c.node, .int .i64 c.next]
theorem encC_cells (c : Cel) : (encC c).cells = [.int .i64 c.num, .int .i64 c.state, .int .i64 c.node, .int .i64 c.next] := by simp [encC, AV.cells]
set_option maxRecDepth 10000 in
theorem f123_spec (c : Cel) : PureF Try.prog 123 [encC c] (.bool (bareB c)) := by
  refine PureF.of_awp mixed (fun _ => []) (fn := Try.f123) (by kernel_rfl) rfl (by kernel_rfl) (by show 1 ≤ _; decide) (by simp [AV.lf]) (fun h => ?_)
  have hk := (Keeps.refl h).alloc 123 1 (.blk (encC c).cells)
  rw [encC_cells] at hk
  cases c1 : (c.node == -1)
  · simp only [go_sem, I_eq, I_cells, encC, encC_cells, c1, Nat.reduceAdd, Nat.reduceBEq, Nat.reduceEqDiff, Nat.reduceLeDiff, Nat.reduceLT, Nat.reduceSub]
    exact ⟨by simp only [bareB, c1, Bool.false_and], hk⟩
  · simp only [go_sem, I_eq, I_cells, encC, encC_cells, c1, Nat.reduceAdd, Nat.reduceBEq, Nat.reduceEqDiff, Nat.reduceLeDiff, Nat.reduceLT, Nat.reduceSub]
    exact ⟨by simp only [bareB, c1, Bool.true_and], hk⟩
set_option maxRecDepth 10000 in
theorem f124_spec (c : Cel) : PureF Try.prog 124 [encC c] (.bool (ledB c)) := by
  refine PureF.of_awp mixed (fun _ => []) (fn := Try.f124) (by kernel_rfl) rfl (by kernel_rfl) (by show 1 ≤ _; decide) (by simp [AV.lf]) (fun h => ?_)
  have hk := (Keeps.refl h).alloc 124 1 (.blk (encC c).cells)
  rw [encC_cells] at hk
  cases c1 : decide (c.node ≥ 0)
  · simp only [go_sem, I_eq, I_cells, encC, encC_cells, c1, Nat.reduceAdd, Nat.reduceBEq, Nat.reduceEqDiff, Nat.reduceLeDiff, Nat.reduceLT, Nat.reduceSub]
    simp only [ge_iff_le] at c1
    exact ⟨by simp [ledB, withinB, c1], hk⟩
  cases c2 : decide (c.node < 32)
  · simp only [go_sem, I_eq, I_cells, encC, encC_cells, c1, c2, Nat.reduceAdd, Nat.reduceBEq, Nat.reduceEqDiff, Nat.reduceLeDiff, Nat.reduceLT, Nat.reduceSub]
    simp only [decide_eq_false_iff_not] at c2
    exact ⟨by congr 1; symm; simp [ledB, withinB]; omega, hk⟩
  cases c3 : decide (c.next ≥ 1)
  · simp only [go_sem, I_eq, I_cells, encC, encC_cells, c1, c2, c3, Nat.reduceAdd, Nat.reduceBEq, Nat.reduceEqDiff, Nat.reduceLeDiff, Nat.reduceLT, Nat.reduceSub]
    simp only [decide_eq_false_iff_not] at c3
    exact ⟨by congr 1; symm; simp [ledB, withinB]; omega, hk⟩
  simp only [go_sem, I_eq, I_cells, encC, encC_cells, c1, c2, c3, Nat.reduceAdd, Nat.reduceBEq, Nat.reduceEqDiff, Nat.reduceLeDiff, Nat.reduceLT, Nat.reduceSub]
  simp only [decide_eq_true_eq] at c1 c2 c3
  refine ⟨?_, hk⟩
  congr 1; simp [ledB, withinB, show 0 ≤ c.node from c1, show c.node ≤ 31 by omega, show (1 : Int) ≤ c.next from c3]

set_option maxRecDepth 10000 in
theorem f112_spec (cs : List Cel) (e : Bool) (hlen : cs.length < 2 ^ 61) : PureF Try.prog 112 [.l e 4 (cs.map encC)] (.int .i64 (openN cs)) := by
  refine PureF.of_awp mixed (fun _ => []) (fn := Try.f112) (by kernel_rfl) rfl (by kernel_rfl) (by show 1 ≤ _; decide) (by simp [AV.lf]) (fun h => ?_)
  simp only [go_sem, I_eq, I_cells, Nat.reduceAdd, Nat.reduceBEq, Nat.reduceEqDiff, Nat.reduceLeDiff, Nat.reduceLT, Nat.reduceSub]
  refine awp_count 8 7 cs.length (by omega) (fun i s => s.slots 6 = .l e 4 (cs.map encC) ∧ s.slots 3 = .int .i64 (openN (cs.take i)) ∧ Keeps h s.hp) ?_ ?_ ?_ ?_ ?_
  · simp only [go_sem, I_eq, I_cells, Nat.reduceAdd, Nat.reduceBEq, Nat.reduceEqDiff, Nat.reduceLeDiff, Nat.reduceLT, Nat.reduceSub]
  · simp only [go_sem, I_eq, I_cells, Nat.reduceAdd, Nat.reduceBEq, Nat.reduceEqDiff, Nat.reduceLeDiff, Nat.reduceLT, Nat.reduceSub]
  · simp only [go_sem, I_eq, I_cells, Nat.reduceAdd, Nat.reduceBEq, Nat.reduceEqDiff, Nat.reduceLeDiff, Nat.reduceLT, Nat.reduceSub]
    exact ⟨by simp [openN], Keeps.refl h⟩
  · rintro i s hlt d2 hw g8 g7 ⟨g6, g3, hH⟩
    have hv := hH.var 112 5 (.blk [.int .i64 0, .int .i64 0, .int .i64 0, .int .i64 0]) (.blk (encC cs[i]).cells)
    rw [encC_cells] at hv
    have hst := openN_step cs i hlt
    have ho := openN_le (cs.take i)
    have hi : (cs.take i).length = i := by simp; omega
    have hw3 : IntKind.i64.wrap ((openN (cs.take i) : Int) + 1) = ((openN (cs.take i) + 1 : Nat) : Int) := wrapS (by omega)
    cases b1 : (cs[i].state == 1)
    · cases b2 : (cs[i].state == 2)
      · rw [if_neg (by simp [busyB, b1, b2])] at hst
        simp only [go_sem, I_eq, I_cells, d2, hw, g8, g7, g6, g3, encC_cells, b1, b2, hst, Nat.reduceAdd, Nat.reduceBEq, Nat.reduceEqDiff, Nat.reduceLeDiff, Nat.reduceLT, Nat.reduceSub]
        exact ⟨by omega, hlt, hv⟩
      · rw [if_pos (by simp [busyB, b2])] at hst
        simp only [go_sem, I_eq, I_cells, d2, hw, g8, g7, g6, g3, encC_cells, b1, b2, hst, hw3, Nat.reduceAdd, Nat.reduceBEq, Nat.reduceEqDiff, Nat.reduceLeDiff, Nat.reduceLT, Nat.reduceSub]
        exact ⟨by omega, hlt, hv⟩
    · rw [if_pos (by simp [busyB, b1])] at hst
      simp only [go_sem, I_eq, I_cells, d2, hw, g8, g7, g6, g3, encC_cells, b1, hst, hw3, Nat.reduceAdd, Nat.reduceBEq, Nat.reduceEqDiff, Nat.reduceLeDiff, Nat.reduceLT, Nat.reduceSub]
      exact ⟨by omega, hlt, hv⟩
  · rintro s d2 g8 g7 ⟨g6, g3, hH⟩
    rw [List.take_length] at g3
    simp only [go_sem, I_eq, I_cells, d2, g8, g7, g6, g3, Nat.reduceAdd, Nat.reduceBEq, Nat.reduceEqDiff, Nat.reduceLeDiff, Nat.reduceLT, Nat.reduceSub]
    exact hH
set_option maxRecDepth 10000 in
theorem f116_spec (cs : List Cel) (e : Bool) (hlen : cs.length < 2 ^ 61) : PureF Try.prog 116 [.l e 4 (cs.map encC)] (.int .i64 (openN cs)) := by
  refine PureF.of_awp mixed (fun _ => []) (fn := Try.f116) (by kernel_rfl) rfl (by kernel_rfl) (by show 1 ≤ _; decide) (by simp [AV.lf]) (fun h => ?_)
  simp only [go_sem, I_eq, I_cells, Nat.reduceAdd, Nat.reduceBEq, Nat.reduceEqDiff, Nat.reduceLeDiff, Nat.reduceLT, Nat.reduceSub]
  refine awp_count 8 7 cs.length (by omega) (fun i s => s.slots 6 = .l e 4 (cs.map encC) ∧ s.slots 3 = .int .i64 (openN (cs.take i)) ∧ Keeps h s.hp) ?_ ?_ ?_ ?_ ?_
  · simp only [go_sem, I_eq, I_cells, Nat.reduceAdd, Nat.reduceBEq, Nat.reduceEqDiff, Nat.reduceLeDiff, Nat.reduceLT, Nat.reduceSub]
  · simp only [go_sem, I_eq, I_cells, Nat.reduceAdd, Nat.reduceBEq, Nat.reduceEqDiff, Nat.reduceLeDiff, Nat.reduceLT, Nat.reduceSub]
  · simp only [go_sem, I_eq, I_cells, Nat.reduceAdd, Nat.reduceBEq, Nat.reduceEqDiff, Nat.reduceLeDiff, Nat.reduceLT, Nat.reduceSub]
    exact ⟨by simp [openN], Keeps.refl h⟩
  · rintro i s hlt d2 hw g8 g7 ⟨g6, g3, hH⟩
    have hv := hH.var 116 5 (.blk [.int .i64 0, .int .i64 0, .int .i64 0, .int .i64 0]) (.blk (encC cs[i]).cells)
    rw [encC_cells] at hv
    have hst := openN_step cs i hlt
    have ho := openN_le (cs.take i)
    have hi : (cs.take i).length = i := by simp; omega
    have hw3 : IntKind.i64.wrap ((openN (cs.take i) : Int) + 1) = ((openN (cs.take i) + 1 : Nat) : Int) := wrapS (by omega)
    cases b1 : (cs[i].state == 1)
    · cases b2 : (cs[i].state == 2)
      · rw [if_neg (by simp [busyB, b1, b2])] at hst
        simp only [go_sem, I_eq, I_cells, d2, hw, g8, g7, g6, g3, encC_cells, b1, b2, hst, Nat.reduceAdd, Nat.reduceBEq, Nat.reduceEqDiff, Nat.reduceLeDiff, Nat.reduceLT, Nat.reduceSub]
        exact ⟨by omega, hlt, hv⟩
      · rw [if_pos (by simp [busyB, b2])] at hst
        simp only [go_sem, I_eq, I_cells, d2, hw, g8, g7, g6, g3, encC_cells, b1, b2, hst, hw3, Nat.reduceAdd, Nat.reduceBEq, Nat.reduceEqDiff, Nat.reduceLeDiff, Nat.reduceLT, Nat.reduceSub]
        exact ⟨by omega, hlt, hv⟩
    · rw [if_pos (by simp [busyB, b1])] at hst
      simp only [go_sem, I_eq, I_cells, d2, hw, g8, g7, g6, g3, encC_cells, b1, hst, hw3, Nat.reduceAdd, Nat.reduceBEq, Nat.reduceEqDiff, Nat.reduceLeDiff, Nat.reduceLT, Nat.reduceSub]
      exact ⟨by omega, hlt, hv⟩
  · rintro s d2 g8 g7 ⟨g6, g3, hH⟩
    rw [List.take_length] at g3
    simp only [go_sem, I_eq, I_cells, d2, g8, g7, g6, g3, Nat.reduceAdd, Nat.reduceBEq, Nat.reduceEqDiff, Nat.reduceLeDiff, Nat.reduceLT, Nat.reduceSub]
    exact hH
end Go.Proofs.Ytmajndgdfmnchaa
