/- Chains. -/
import Derived.Test.YtmajndgdfmnchaaZTI
import Derived.Test.YtmajndgdfmnchaaT4
namespace Go.Proofs.Ytmajndgdfmnchaa
open Go Go.T Go.Gh Go.Proofs
set_option linter.unusedSimpArgs false
theorem goodC_bad {cs : List Cel} {me : Int} {sink : Bool} {i : Nat} (hlt : i < cs.length) (h : cellOk cs me sink i cs[i] = false) : goodC cs me sink = false := by
  unfold goodC
  have : (List.range cs.length).all (cellAt cs me sink) = false := List.all_eq_false.2 ⟨i, List.mem_range.2 hlt, by simp [cellAt, List.getElem?_eq_getElem hlt, h]⟩
  rw [this, Bool.and_false]
theorem goodC_next {cs : List Cel} {me : Int} {sink : Bool} {i : Nat} (hlt : i < cs.length) (hn : ∀ u, u < i → cellAt cs me sink u = true) (h : cellOk cs me sink i cs[i] = true) : ∀ u, u < i + 1 → cellAt cs me sink u = true := by
  intro u hu
  rcases Nat.lt_succ_iff_lt_or_eq.1 hu with hu | rfl
  · exact hn u hu
  · simp [cellAt, List.getElem?_eq_getElem hlt, h]
theorem goodC_all {cs : List Cel} {me : Int} {sink : Bool} (h0 : (sink && cs.isEmpty) = false) (hn : ∀ u, u < cs.length → cellAt cs me sink u = true) : goodC cs me sink = true := by
  unfold goodC
  rw [h0, Bool.not_false, Bool.true_and]
  exact List.all_eq_true.2 fun u hu => hn u (List.mem_range.1 hu)
theorem bareB_dec (c : Cel) : bareB c = decide (c.node = -1 ∧ c.next = 0) := by
  rw [Bool.eq_iff_iff]; simp [bareB]
theorem ledB_dec (c : Cel) : ledB c = decide ((0 ≤ c.node ∧ c.node ≤ 31) ∧ 1 ≤ c.next ∧ c.next ≤ 1099511627776) := by
  rw [Bool.eq_iff_iff]; simp [ledB, withinB]
/-- What is asked of a cell, with the numbers of those beside it. -/
def CellP (n : Nat) (me : Int) (sink : Bool) (i : Nat) (pv nx : Int) (c : Cel) : Prop :=
  (0 ≤ c.num ∧ c.num ≤ 1099511627776) ∧ (i = 0 ∨ pv < c.num) ∧ (1 ≤ c.state ∧ c.state ≤ 3) ∧ (i = 0 ∨ c.state = 1) ∧ (c.num ≠ 0 ∨ c.state = 3) ∧
  (sink = true ∧ i + 1 = n → c.node = -1 ∧ c.next = 0) ∧
  (¬ (sink = true ∧ i + 1 = n) → c.state ≠ 3 ∧ (0 ≤ c.node ∧ c.node ≤ 31) ∧ (1 ≤ c.next ∧ c.next ≤ 1099511627776) ∧ (c.node = me → i + 1 ≠ n ∧ nx = c.next))
theorem cellOk_iff {cs : List Cel} {me : Int} {sink : Bool} {i : Nat} {c : Cel} : cellOk cs me sink i c = true ↔ CellP cs.length me sink i ((cs[i - 1]?.map Cel.num).getD 0) ((cs[i + 1]?.map Cel.num).getD 0) c := by
  unfold cellOk CellP
  by_cases hs : sink = true ∧ i + 1 = cs.length
  · simp [hs, withinB, bareB]
    simp only [and_assoc]
  · have : (sink && i + 1 == cs.length) = false := by simpa using hs
    simp only [this, hs]
    simp [withinB, ledB, Decidable.not_or_of_imp, Classical.or_iff_not_imp_left]
    simp only [and_assoc]
theorem cell_nx {cs : List Cel} {i : Nat} (h : i < cs.length) : (cs[i]?.map Cel.num).getD 0 = cs[i].num := by simp [h]
theorem goodC_num {cs : List Cel} {me : Int} {sink : Bool} (h : goodC cs me sink = true) : ∀ i (hi : i < cs.length), (i : Int) ≤ cs[i].num ∧ cs[i].num ≤ 1099511627776 := by
  have ha : ∀ i, i < cs.length → cellAt cs me sink i = true := by
    unfold goodC at h
    simp only [Bool.and_eq_true, List.all_eq_true, List.mem_range] at h
    exact h.2
  intro i
  induction i with
  | zero => intro hi; have h1 := ha 0 hi; simp only [cellAt, List.getElem?_eq_getElem hi] at h1; have h2 := cellOk_iff.1 h1; unfold CellP at h2; exact h2.1
  | succ i ih =>
    intro hi
    have h0 := ih (by omega)
    have h1 := ha (i + 1) hi
    simp only [cellAt, List.getElem?_eq_getElem hi] at h1
    have h2 := cellOk_iff.1 h1
    unfold CellP at h2
    rw [Nat.add_sub_cancel, cell_nx (show i < cs.length by omega)] at h2
    omega
theorem goodC_len {cs : List Cel} {me : Int} {sink : Bool} (h : goodC cs me sink = true) : cs.length ≤ 1099511627777 := by
  rcases Nat.eq_zero_or_pos cs.length with h0 | h0
  · omega
  · have := goodC_num h (cs.length - 1) (by omega); omega
set_option maxRecDepth 10000 in
set_option maxHeartbeats 4000000 in
theorem chain_Good_spec (cs : List Cel) (e : Bool) (me : Int) (sink : Bool) (hlen : cs.length ≤ 9223372036854775807) : PureF Try.prog 108 [.l e 4 (cs.map encC), .int .i64 me, .bool sink] (.bool (goodC cs me sink)) := by
  refine PureF.of_awp mixed (fun _ => []) (fn := Try.f108) (by kernel_rfl) rfl (by kernel_rfl) (by show 3 ≤ _; decide) (by simp [AV.lf]) (fun h => ?_)
  by_cases hz : sink = true ∧ cs.length = 0
  · obtain ⟨rfl, hz⟩ := hz
    have d0 : ((cs.length : Int) == 0) = true := by rw [hz]; rfl
    simp only [go_sem, I_eq, I_cells, d0, Nat.reduceAdd, Nat.reduceBEq, Nat.reduceEqDiff, Nat.reduceLeDiff, Nat.reduceLT, Nat.reduceSub]
    exact ⟨by have := List.length_eq_zero_iff.1 hz; subst this; rfl, Keeps.refl h⟩
  have he : (sink && cs.isEmpty) = false := by
    cases sink
    · rfl
    · have : cs ≠ [] := fun hc => hz ⟨rfl, by rw [hc]; rfl⟩
      simpa using this
  refine awp_cut (fun s => s.slots 0 = .l e 4 (cs.map encC) ∧ s.slots 1 = .int .i64 me ∧ s.slots 2 = .bool sink ∧ s.hp = h) ?_ ?_
  · simp only [go_sem, I_eq, I_cells, Nat.reduceAdd, Nat.reduceBEq, Nat.reduceEqDiff, Nat.reduceLeDiff, Nat.reduceLT, Nat.reduceSub]
  rintro s ⟨h0, h1, h2, hH⟩
  refine awp_cut (fun s => s.slots 0 = .l e 4 (cs.map encC) ∧ s.slots 1 = .int .i64 me ∧ s.slots 2 = .bool sink ∧ s.hp = h) ?_ ?_
  · repeat' first
      | (with_reducible refine CondX.dec (fun c => ?_) (fun c => ?_)) <;> try (exfalso; omega)
      | (with_reducible refine CondX.beq (fun c => ?_) (fun c => ?_)) <;> try (exfalso; omega)
      | (with_reducible refine CondX.bne (fun c => ?_) (fun c => ?_)) <;> try (exfalso; omega)
      | (with_reducible refine CondX.bool (fun c => ?_) (fun c => ?_)) <;> try (exfalso; omega)
      | simp only [go_sem, I_eq, I_cells, h0, h1, h2, hH, Nat.reduceAdd, Nat.reduceBEq, Nat.reduceEqDiff, Nat.reduceLeDiff, Nat.reduceLT, Nat.reduceSub]
      | simp (disch := omega) only [wrap_in, toNat_succ, toNat_pred, Int.toNat_natCast]
      | with_reducible refine And.intro (by omega) ?_
      | with_reducible refine exI (by omega) ?_
      | fail
    exact absurd ⟨‹sink = true›, by omega⟩ hz
  clear h0 h1 h2 hH
  rintro s ⟨h0, h1, h2, hH⟩
  simp only [go_sem, I_eq, I_cells, h0, h1, h2, hH, Nat.reduceAdd, Nat.reduceBEq, Nat.reduceEqDiff, Nat.reduceLeDiff, Nat.reduceLT, Nat.reduceSub]
  refine awp_count 18 17 cs.length (by omega) (fun i s => s.slots 0 = .l e 4 (cs.map encC) ∧ s.slots 16 = .l e 4 (cs.map encC) ∧ s.slots 1 = .int .i64 me ∧ s.slots 2 = .bool sink ∧ (∀ u, u < i → cellAt cs me sink u = true) ∧ Keeps h s.hp) ?_ ?_ ?_ ?_ ?_
  · simp only [go_sem, I_eq, I_cells, Nat.reduceAdd, Nat.reduceBEq, Nat.reduceEqDiff, Nat.reduceLeDiff, Nat.reduceLT, Nat.reduceSub]
  · simp only [go_sem, I_eq, I_cells, Nat.reduceAdd, Nat.reduceBEq, Nat.reduceEqDiff, Nat.reduceLeDiff, Nat.reduceLT, Nat.reduceSub]
  · simp only [go_sem, I_eq, I_cells, h0, h1, h2, hH, Nat.reduceAdd, Nat.reduceBEq, Nat.reduceEqDiff, Nat.reduceLeDiff, Nat.reduceLT, Nat.reduceSub]
    exact ⟨fun u hu => absurd hu (by omega), Keeps.refl h⟩
  · clear h0 h1 h2 hH
    rintro i s hlt d2 hw g18 g17 ⟨h0, g16, h1, h2, hn, hH⟩
    have he' := he
    have hbad := fun hc => goodC_bad (me := me) (sink := sink) hlt (Bool.eq_false_iff.2 (mt cellOk_iff.1 hc))
    have hgo := fun hc => goodC_next (me := me) (sink := sink) hlt hn (cellOk_iff.2 hc)
    unfold CellP at hbad hgo
    rw [cell_nx (show i - 1 < cs.length by omega)] at hbad hgo
    have hwl : IntKind.i64.wrap ((cs.length : Int) - 1) = (cs.length : Int) - 1 := IntWalk.i64_in _ (by omega)
    have hwp : IntKind.i64.wrap ((i : Int) - 1) = (i : Int) - 1 := IntWalk.i64_in _ (by omega)
    clear hz he hn
    repeat' first
      | (with_reducible refine CondX.dec (fun c => ?_) (fun c => ?_)) <;> try (exfalso; omega)
      | (with_reducible refine CondX.beq (fun c => ?_) (fun c => ?_)) <;> try (exfalso; omega)
      | (with_reducible refine CondX.bne (fun c => ?_) (fun c => ?_)) <;> try (exfalso; omega)
      | (with_reducible refine CondX.bool (fun c => ?_) (fun c => ?_)) <;> try (exfalso; omega)
      | ((with_reducible refine CallX.id ?_); first | refine CallX.pure (f123_spec cs[i]) ?_ | refine CallX.pure (f124_spec cs[i]) ?_)
      | simp only [go_sem, I_eq, I_cells, hwl, hwp, g18, g17, g16, h0, h1, h2, d2, hw, encC_cells, bareB_dec, ledB_dec, Nat.reduceAdd, Nat.reduceBEq, Nat.reduceEqDiff, Nat.reduceLeDiff, Nat.reduceLT, Nat.reduceSub]
      | simp (disch := omega) only [wrap_in, toNat_succ, toNat_pred, Int.toNat_natCast]
      | with_reducible refine And.intro (by omega) ?_
      | with_reducible refine exI (by omega) ?_
      | fail
    all_goals first
      | ((repeat with_reducible apply Keeps.alloc); first | assumption | exact Keeps.refl _)
      | skip
    all_goals
      have hl := Nat.lt_or_ge (i + 1) cs.length
      rcases hl with hl | hl
      case' inl => rw [cell_nx hl] at hbad hgo
    all_goals
      cases sink <;> simp only [Bool.false_eq_true, false_and, false_implies, not_false_eq_true, true_implies, true_and] at hbad hgo ⊢ <;> first
      | contradiction
      | (exfalso; omega)
      | exact ⟨by rw [hbad (by omega)], by ((repeat with_reducible apply Keeps.alloc); first | assumption | exact Keeps.refl _)⟩
      | exact ⟨hgo (by omega), by ((repeat with_reducible apply Keeps.alloc); first | assumption | exact Keeps.refl _)⟩
  · rintro s d2 g18 g17 ⟨h0, g16, h1, h2, hn, hH⟩
    simp only [go_sem, I_eq, I_cells, d2, g18, g17, g16, h0, h1, h2, Nat.reduceAdd, Nat.reduceBEq, Nat.reduceEqDiff, Nat.reduceLeDiff, Nat.reduceLT, Nat.reduceSub]
    exact ⟨by rw [goodC_all he hn], hH⟩
end Go.Proofs.Ytmajndgdfmnchaa
