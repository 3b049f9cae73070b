/- Part of a proof: what functions of the given program compute, and plain laws of it. -/
import Derived.Test.YtmajndgdfmnchaaZ9
import Derived.Test.YtmajndgdfmnchaaT4
/- Chains. -/
namespace Go.Proofs.Ytmajndgdfmnchaa
open Go Go.T Go.Gh Go.Proofs
set_option linter.unusedSimpArgs false
theorem goodC_bad {cs : List Cel} {me : Int} {sink : Bool} {i : Nat} (hlt : i < cs.length) (h : cellOk cs me sink i cs[i] = false) : goodC cs me sink = false := by
  unfold goodC
  have : (List.range cs.length).all (cellAt cs me sink) = false := List.all_eq_false.2 ⟨i, List.mem_range.2 hlt, by simp [cellAt, List.getElem?_eq_getElem hlt, h]⟩
  rw [this, Bool.and_false]
theorem goodC_next {cs : List Cel} {me : Int} {sink : Bool} {i : Nat} (hlt : i < cs.length) (hn : ∀ u, u < i → cellAt cs me sink u = true) (h : cellOk cs me sink i cs[i] = true) : ∀ u, u < i + 1 → cellAt cs me sink u = true := by
  intro u hu
  rcases Nat.lt_succ_iff_lt_or_eq.1 hu with hu | rfl
  · exact hn u hu
  · simp [cellAt, List.getElem?_eq_getElem hlt, h]
theorem goodC_all {cs : List Cel} {me : Int} {sink : Bool} (h0 : (sink && cs.isEmpty) = false) (hn : ∀ u, u < cs.length → cellAt cs me sink u = true) : goodC cs me sink = true := by
  unfold goodC
  rw [h0, Bool.not_false, Bool.true_and]
  exact List.all_eq_true.2 fun u hu => hn u (List.mem_range.1 hu)
theorem bareB_dec (c : Cel) : bareB c = decide (c.node = -1 ∧ c.next = 0) := by
  rw [Bool.eq_iff_iff]; simp [bareB]
theorem ledB_dec (c : Cel) : ledB c = decide ((0 ≤ c.node ∧ c.node ≤ 31) ∧ 1 ≤ c.next ∧ c.next ≤ 1099511627776) := by
  rw [Bool.eq_iff_iff]; simp [ledB, withinB]
/-- What is asked of a cell, with the numbers of those beside it. -/
def CellP (n : Nat) (me : Int) (sink : Bool) (i : Nat) (pv nx : Int) (c : Cel) : Prop :=
  (0 ≤ c.num ∧ c.num ≤ 1099511627776) ∧ (i = 0 ∨ pv < c.num) ∧ (1 ≤ c.state ∧ c.state ≤ 3) ∧ (i = 0 ∨ c.state = 1) ∧ (c.num ≠ 0 ∨ c.state = 3) ∧
  (sink = true ∧ i + 1 = n → c.node = -1 ∧ c.next = 0) ∧
  (¬ (sink = true ∧ i + 1 = n) → c.state ≠ 3 ∧ (0 ≤ c.node ∧ c.node ≤ 31) ∧ (1 ≤ c.next ∧ c.next ≤ 1099511627776) ∧ (c.node = me → i + 1 ≠ n ∧ nx = c.next))
theorem cellOk_iff {cs : List Cel} {me : Int} {sink : Bool} {i : Nat} {c : Cel} : cellOk cs me sink i c = true ↔ CellP cs.length me sink i ((cs[i - 1]?.map Cel.num).getD 0) ((cs[i + 1]?.map Cel.num).getD 0) c := by
  unfold cellOk CellP
  by_cases hs : sink = true ∧ i + 1 = cs.length
  · simp [hs, withinB, bareB]
    simp only [and_assoc]
  · have : (sink && i + 1 == cs.length) = false := by simpa using hs
    simp only [this, hs]
    simp [withinB, ledB, Decidable.not_or_of_imp, Classical.or_iff_not_imp_left]
    simp only [and_assoc]
theorem cell_nx {cs : List Cel} {i : Nat} (h : i < cs.length) : (cs[i]?.map Cel.num).getD 0 = cs[i].num := by simp [h]
theorem goodC_num {cs : List Cel} {me : Int} {sink : Bool} (h : goodC cs me sink = true) : ∀ i (hi : i < cs.length), (i : Int) ≤ cs[i].num ∧ cs[i].num ≤ 1099511627776 := by
  have ha : ∀ i, i < cs.length → cellAt cs me sink i = true := by
    unfold goodC at h
    simp only [Bool.and_eq_true, List.all_eq_true, List.mem_range] at h
    exact h.2
  intro i
  induction i with
  | zero => intro hi; have h1 := ha 0 hi; simp only [cellAt, List.getElem?_eq_getElem hi] at h1; have h2 := cellOk_iff.1 h1; unfold CellP at h2; exact h2.1
  | succ i ih =>
    intro hi
    have h0 := ih (by omega)
    have h1 := ha (i + 1) hi
    simp only [cellAt, List.getElem?_eq_getElem hi] at h1
    have h2 := cellOk_iff.1 h1
    unfold CellP at h2
    rw [Nat.add_sub_cancel, cell_nx (show i < cs.length by omega)] at h2
    omega
theorem goodC_len {cs : List Cel} {me : Int} {sink : Bool} (h : goodC cs me sink = true) : cs.length ≤ 1099511627777 := by
  rcases Nat.eq_zero_or_pos cs.length with h0 | h0
  · omega
  · have := goodC_num h (cs.length - 1) (by omega); omega
set_option maxRecDepth 10000 in
set_option maxHeartbeats 4000000 in
theorem chain_Good_spec (cs : List Cel) (e : Bool) (me : Int) (sink : Bool) (hlen : cs.length ≤ 9223372036854775807) : PureF Try.prog 108 [.l e 4 (cs.map encC), .int .i64 me, .bool sink] (.bool (goodC cs me sink)) := by
  refine PureF.of_awp mixed (fun _ => []) (fn := Try.f108) (by kernel_rfl) rfl (by kernel_rfl) (by show 3 ≤ _; decide) (by simp [AV.lf]) (fun h => ?_)
  by_cases hz : sink = true ∧ cs.length = 0
  · obtain ⟨rfl, hz⟩ := hz
    have d0 : ((cs.length : Int) == 0) = true := by rw [hz]; rfl
    simp only [go_sem, I_eq, I_cells, d0, Nat.reduceAdd, Nat.reduceBEq, Nat.reduceEqDiff, Nat.reduceLeDiff, Nat.reduceLT, Nat.reduceSub]
    exact ⟨by have := List.length_eq_zero_iff.1 hz; subst this; rfl, Keeps.refl h⟩
  have he : (sink && cs.isEmpty) = false := by
    cases sink
    · rfl
    · have : cs ≠ [] := fun hc => hz ⟨rfl, by rw [hc]; rfl⟩
      simpa using this
  refine awp_cut (fun s => s.slots 0 = .l e 4 (cs.map encC) ∧ s.slots 1 = .int .i64 me ∧ s.slots 2 = .bool sink ∧ s.hp = h) ?_ ?_
  · simp only [go_sem, I_eq, I_cells, Nat.reduceAdd, Nat.reduceBEq, Nat.reduceEqDiff, Nat.reduceLeDiff, Nat.reduceLT, Nat.reduceSub]
  rintro s ⟨h0, h1, h2, hH⟩
  refine awp_cut (fun s => s.slots 0 = .l e 4 (cs.map encC) ∧ s.slots 1 = .int .i64 me ∧ s.slots 2 = .bool sink ∧ s.hp = h) ?_ ?_
  · repeat' first
      | (with_reducible refine CondX.dec (fun c => ?_) (fun c => ?_)) <;> try (exfalso; omega)
      | (with_reducible refine CondX.beq (fun c => ?_) (fun c => ?_)) <;> try (exfalso; omega)
      | (with_reducible refine CondX.bne (fun c => ?_) (fun c => ?_)) <;> try (exfalso; omega)
      | (with_reducible refine CondX.bool (fun c => ?_) (fun c => ?_)) <;> try (exfalso; omega)
      | simp only [go_sem, I_eq, I_cells, h0, h1, h2, hH, Nat.reduceAdd, Nat.reduceBEq, Nat.reduceEqDiff, Nat.reduceLeDiff, Nat.reduceLT, Nat.reduceSub]
      | simp (disch := omega) only [wrap_in, toNat_succ, toNat_pred, Int.toNat_natCast]
      | with_reducible refine And.intro (by omega) ?_
      | with_reducible refine exI (by omega) ?_
      | fail
    exact absurd ⟨‹sink = true›, by omega⟩ hz
  clear h0 h1 h2 hH
  rintro s ⟨h0, h1, h2, hH⟩
  simp only [go_sem, I_eq, I_cells, h0, h1, h2, hH, Nat.reduceAdd, Nat.reduceBEq, Nat.reduceEqDiff, Nat.reduceLeDiff, Nat.reduceLT, Nat.reduceSub]
  refine awp_count 18 17 cs.length (by omega) (fun i s => s.slots 0 = .l e 4 (cs.map encC) ∧ s.slots 16 = .l e 4 (cs.map encC) ∧ s.slots 1 = .int .i64 me ∧ s.slots 2 = .bool sink ∧ (∀ u, u < i → cellAt cs me sink u = true) ∧ Keeps h s.hp) ?_ ?_ ?_ ?_ ?_
  · simp only [go_sem, I_eq, I_cells, Nat.reduceAdd, Nat.reduceBEq, Nat.reduceEqDiff, Nat.reduceLeDiff, Nat.reduceLT, Nat.reduceSub]
  · simp only [go_sem, I_eq, I_cells, Nat.reduceAdd, Nat.reduceBEq, Nat.reduceEqDiff, Nat.reduceLeDiff, Nat.reduceLT, Nat.reduceSub]
  · simp only [go_sem, I_eq, I_cells, h0, h1, h2, hH, Nat.reduceAdd, Nat.reduceBEq, Nat.reduceEqDiff, Nat.reduceLeDiff, Nat.reduceLT, Nat.reduceSub]
    exact ⟨fun u hu => absurd hu (by omega), Keeps.refl h⟩
  · clear h0 h1 h2 hH
    rintro i s hlt d2 hw g18 g17 ⟨h0, g16, h1, h2, hn, hH⟩
    have he' := he
    have hbad := fun hc => goodC_bad (me := me) (sink := sink) hlt (Bool.eq_false_iff.2 (mt cellOk_iff.1 hc))
    have hgo := fun hc => goodC_next (me := me) (sink := sink) hlt hn (cellOk_iff.2 hc)
    unfold CellP at hbad hgo
    rw [cell_nx (show i - 1 < cs.length by omega)] at hbad hgo
    have hwl : IntKind.i64.wrap ((cs.length : Int) - 1) = (cs.length : Int) - 1 := IntWalk.i64_in _ (by omega)
    have hwp : IntKind.i64.wrap ((i : Int) - 1) = (i : Int) - 1 := IntWalk.i64_in _ (by omega)
    clear hz he hn
    repeat' first
      | (with_reducible refine CondX.dec (fun c => ?_) (fun c => ?_)) <;> try (exfalso; omega)
      | (with_reducible refine CondX.beq (fun c => ?_) (fun c => ?_)) <;> try (exfalso; omega)
      | (with_reducible refine CondX.bne (fun c => ?_) (fun c => ?_)) <;> try (exfalso; omega)
      | (with_reducible refine CondX.bool (fun c => ?_) (fun c => ?_)) <;> try (exfalso; omega)
      | ((with_reducible refine CallX.id ?_); first | refine CallX.pure (f123_spec cs[i]) ?_ | refine CallX.pure (f124_spec cs[i]) ?_)
      | simp only [go_sem, I_eq, I_cells, hwl, hwp, g18, g17, g16, h0, h1, h2, d2, hw, encC_cells, bareB_dec, ledB_dec, Nat.reduceAdd, Nat.reduceBEq, Nat.reduceEqDiff, Nat.reduceLeDiff, Nat.reduceLT, Nat.reduceSub]
      | simp (disch := omega) only [wrap_in, toNat_succ, toNat_pred, Int.toNat_natCast]
      | with_reducible refine And.intro (by omega) ?_
      | with_reducible refine exI (by omega) ?_
      | fail
    all_goals first
      | ((repeat with_reducible apply Keeps.alloc); first | assumption | exact Keeps.refl _)
      | skip
    all_goals
      have hl := Nat.lt_or_ge (i + 1) cs.length
      rcases hl with hl | hl
      case' inl => rw [cell_nx hl] at hbad hgo
    all_goals
      cases sink <;> simp only [Bool.false_eq_true, false_and, false_implies, not_false_eq_true, true_implies, true_and] at hbad hgo ⊢ <;> first
      | contradiction
      | (exfalso; omega)
      | exact ⟨by rw [hbad (by omega)], by ((repeat with_reducible apply Keeps.alloc); first | assumption | exact Keeps.refl _)⟩
      | exact ⟨hgo (by omega), by ((repeat with_reducible apply Keeps.alloc); first | assumption | exact Keeps.refl _)⟩
  · rintro s d2 g18 g17 ⟨h0, g16, h1, h2, hn, hH⟩
    simp only [go_sem, I_eq, I_cells, d2, g18, g17, g16, h0, h1, h2, Nat.reduceAdd, Nat.reduceBEq, Nat.reduceEqDiff, Nat.reduceLeDiff, Nat.reduceLT, Nat.reduceSub]
    exact ⟨by rw [goodC_all he hn], hH⟩
end Go.Proofs.Ytmajndgdfmnchaa
/- Trees: what is asked of them. -/
namespace Go.Gh
def idxI (x : Int) (l : List Int) : Int := idxP (fun y => x == y) l
/-- Whether there is a node. -/
def hasN (ps : List Int) (v : Int) : Bool := decide (0 ≤ v ∧ v < ps.length)
/-- The neighbours of a node, rising. -/
def nbr (ps : List Int) (v : Int) : List Int := if hasN ps v then sortI (nearL ps v.toNat ps.length) else []
def TreeOk (ps : List Int) : Prop := treeR ps = (0, 0)
def nextUp (ps : List Int) (v : Int) : Nat → Int → Int
  | 0, _ => ps.getD v.toNat 0
  | k + 1, a => if a < 0 then ps.getD v.toNat 0 else if ps.getD a.toNat 0 = v then a else nextUp ps v k (ps.getD a.toNat 0)
def nextT (ps : List Int) (v to : Int) : Int := if hasN ps v && hasN ps to then (if v = to then to else nextUp ps v ps.length to) else -1
theorem TreeOk.len {ps : List Int} (h : TreeOk ps) : 0 < ps.length ∧ ps.length ≤ 32 := by
  unfold TreeOk treeR at h
  by_cases hz : ps.length = 0
  · simp [hz] at h
  · by_cases hg : 32 < ps.length
    · simp [hz, hg] at h
    · omega
theorem TreeOk.fault {ps : List Int} (h : TreeOk ps) : ∀ u, u < ps.length → faultB ps u = false := by
  have hl := h.len
  intro u hu
  unfold TreeOk treeR at h
  cases hc : (List.range ps.length).find? (faultB ps) with
  | some v => rw [if_neg (by omega), if_neg (by omega), hc] at h; simp at h
  | none => rw [List.find?_range_eq_none] at hc; simpa using hc u hu
theorem TreeOk.in {ps : List Int} (h : TreeOk ps) {u : Nat} (hu : u < ps.length) : -1 ≤ ps[u] ∧ ps[u] < ps.length ∧ ps[u] ≠ u := in_tree hu (h.fault u hu)
theorem TreeOk.climb {ps : List Int} (h : TreeOk ps) : ∀ u : Nat, u < ps.length → climb ps ps.length u = true := by
  have hl := h.len
  have hf := h.fault
  intro u hu
  unfold TreeOk treeR at h
  rw [if_neg (by omega), if_neg (by omega), find_range_none hf] at h
  cases hc : (List.range ps.length).find? (fun v : Nat => !Go.Gh.climb ps ps.length v) with
  | some v => rw [hc] at h; simp at h
  | none => rw [List.find?_range_eq_none] at hc; simpa using hc u hu
theorem idx_at {ps : List Int} {i : Nat} (h : i < ps.length) : ps.getD i 0 = ps[i] := by simp [h]
theorem nbr_len (ps : List Int) (v : Int) : (nbr ps v).length ≤ ps.length := by
  unfold nbr; split
  · have := nearL_len ps v.toNat ps.length
    unfold sortI; rw [List.length_mergeSort]; exact this
  · simp
end Go.Gh
namespace Go.Proofs.Ytmajndgdfmnchaa
open Go Go.T Go.Gh Go.Proofs
set_option linter.unusedSimpArgs false
theorem Index_int_spec (xs : List Int) (e : Bool) (x : Int) (hlen : xs.length < 2 ^ 61) : PureF Try.prog 82 [.l e 1 (xs.map I), .int .i64 x] (.int .i64 (idxI x xs)) := by
  refine PureF.of_awp mixed (fun _ => []) (fn := Try.f82) (by kernel_rfl) rfl (by kernel_rfl) (by show 2 ≤ _; decide) (by simp [AV.lf]) (fun h => ?_)
  simp only [go_sem, I_eq, I_cells, Nat.reduceAdd, Nat.reduceBEq, Nat.reduceEqDiff, Nat.reduceLeDiff, Nat.reduceLT, Nat.reduceSub]
  refine awp_count 8 7 xs.length (by omega) (fun i s => s.slots 0 = .l e 1 (xs.map I) ∧ s.slots 1 = .int .i64 x ∧ (∀ y ∈ xs.take i, (x == y) = false) ∧ Keeps h s.hp) ?_ ?_ ?_ ?_ ?_
  · simp only [go_sem, I_eq, I_cells, Nat.reduceAdd, Nat.reduceBEq, Nat.reduceEqDiff, Nat.reduceLeDiff, Nat.reduceLT, Nat.reduceSub]
  · simp only [go_sem, I_eq, I_cells, Nat.reduceAdd, Nat.reduceBEq, Nat.reduceEqDiff, Nat.reduceLeDiff, Nat.reduceLT, Nat.reduceSub]
  · simp only [go_sem, I_eq, I_cells, Nat.reduceAdd, Nat.reduceBEq, Nat.reduceEqDiff, Nat.reduceLeDiff, Nat.reduceLT, Nat.reduceSub]
    exact ⟨by simp, Keeps.refl h⟩
  · rintro i s hlt d2 hw g8 g7 ⟨h0, h1, hn, hH⟩
    repeat' first
      | (with_reducible refine CondX.dec (fun c => ?_) (fun c => ?_)) <;> try (exfalso; omega)
      | (with_reducible refine CondX.beq (fun c => ?_) (fun c => ?_)) <;> try (exfalso; omega)
      | (with_reducible refine CondX.bne (fun c => ?_) (fun c => ?_)) <;> try (exfalso; omega)
      | (with_reducible refine CondX.bool (fun c => ?_) (fun c => ?_)) <;> try (exfalso; omega)
      | simp only [go_sem, I_eq, I_cells, d2, hw, g8, g7, h0, h1, Nat.reduceAdd, Nat.reduceBEq, Nat.reduceEqDiff, Nat.reduceLeDiff, Nat.reduceLT, Nat.reduceSub]
      | simp (disch := omega) only [wrap_in, toNat_succ, toNat_pred, Int.toNat_natCast]
      | with_reducible refine And.intro (by omega) ?_
      | with_reducible refine exI (by omega) ?_
      | fail
    · exact ⟨by rw [idxI, idxP_at _ xs i hlt (by simpa using c) hn], hH⟩
    · refine ⟨fun y hy => ?_, hH⟩
      rw [List.take_succ_eq_append_getElem hlt] at hy
      rcases List.mem_append.1 hy with hy | hy
      · exact hn y hy
      · rw [List.mem_singleton.1 hy]; simpa using c
  · rintro s d2 g8 g7 ⟨h0, h1, hn, hH⟩
    rw [List.take_length] at hn
    simp only [go_sem, I_eq, I_cells, d2, g8, g7, h0, h1, Nat.reduceAdd, Nat.reduceBEq, Nat.reduceEqDiff, Nat.reduceLeDiff, Nat.reduceLT, Nat.reduceSub]
    exact ⟨by rw [idxI, idxP_none _ xs hn], hH⟩
theorem Contains_int_spec (xs : List Int) (e : Bool) (x : Int) (hlen : xs.length < 2 ^ 61) : PureF Try.prog 54 [.l e 1 (xs.map I), .int .i64 x] (.bool (decide (x ∈ xs))) := by
  refine PureF.of_awp mixed (fun _ => []) (fn := Try.f54) (by kernel_rfl) rfl (by kernel_rfl) (by show 2 ≤ _; decide) (by simp [AV.lf]) (fun h => ?_)
  repeat' first
    | (with_reducible refine CondX.dec (fun c => ?_) (fun c => ?_)) <;> try (exfalso; omega)
    | (with_reducible refine CondX.beq (fun c => ?_) (fun c => ?_)) <;> try (exfalso; omega)
    | (with_reducible refine CondX.bne (fun c => ?_) (fun c => ?_)) <;> try (exfalso; omega)
    | (with_reducible refine CondX.bool (fun c => ?_) (fun c => ?_)) <;> try (exfalso; omega)
    | ((with_reducible refine CallX.id ?_); first | refine CallX.pure (Index_int_spec _ _ _ hlen) ?_)
    | simp only [go_sem, I_eq, I_cells, Nat.reduceAdd, Nat.reduceBEq, Nat.reduceEqDiff, Nat.reduceLeDiff, Nat.reduceLT, Nat.reduceSub]
    | simp (disch := omega) only [wrap_in, toNat_succ, toNat_pred, Int.toNat_natCast]
    | with_reducible refine And.intro (by omega) ?_
    | with_reducible refine exI (by omega) ?_
    | fail
  refine ⟨?_, Keeps.refl h⟩
  rw [idxI, idxP_any]
  congr 1
  rw [Bool.eq_iff_iff]; simp
@[go_sem] theorem treeV_cells (ps : List Int) : (treeV ps).cells = [treeV ps] := by simp [treeV, AV.cells]
@[go_sem] theorem treeV_isCell (ps : List Int) : (treeV ps).isCell = true := by simp [treeV, AV.isCell]
theorem Size_spec (ps : List Int) : PureF Try.prog 52 [treeV ps] (.int .i64 ps.length) := by
  refine PureF.of_awp mixed (fun _ => []) (fn := Try.f52) (by kernel_rfl) rfl (by kernel_rfl) (by show 1 ≤ _; decide) (by simp [AV.lf]) (fun h => ?_)
  repeat' first
    | (with_reducible refine CondX.dec (fun c => ?_) (fun c => ?_)) <;> try (exfalso; omega)
    | (with_reducible refine CondX.beq (fun c => ?_) (fun c => ?_)) <;> try (exfalso; omega)
    | (with_reducible refine CondX.bne (fun c => ?_) (fun c => ?_)) <;> try (exfalso; omega)
    | (with_reducible refine CondX.bool (fun c => ?_) (fun c => ?_)) <;> try (exfalso; omega)
    | simp only [go_sem, I_eq, I_cells, treeV, Nat.reduceAdd, Nat.reduceBEq, Nat.reduceEqDiff, Nat.reduceLeDiff, Nat.reduceLT, Nat.reduceSub]
    | simp (disch := omega) only [wrap_in, toNat_succ, toNat_pred, Int.toNat_natCast]
    | with_reducible refine And.intro (by omega) ?_
    | with_reducible refine exI (by omega) ?_
    | fail
  exact Keeps.refl h
theorem has_spec (ps : List Int) (v : Int) : PureF Try.prog 83 [treeV ps, .int .i64 v] (.bool (hasN ps v)) := by
  refine PureF.of_awp mixed (fun _ => []) (fn := Try.f83) (by kernel_rfl) rfl (by kernel_rfl) (by show 2 ≤ _; decide) (by simp [AV.lf]) (fun h => ?_)
  repeat' first
    | (with_reducible refine CondX.dec (fun c => ?_) (fun c => ?_)) <;> try (exfalso; omega)
    | (with_reducible refine CondX.beq (fun c => ?_) (fun c => ?_)) <;> try (exfalso; omega)
    | (with_reducible refine CondX.bne (fun c => ?_) (fun c => ?_)) <;> try (exfalso; omega)
    | (with_reducible refine CondX.bool (fun c => ?_) (fun c => ?_)) <;> try (exfalso; omega)
    | simp only [go_sem, I_eq, I_cells, treeV, Nat.reduceAdd, Nat.reduceBEq, Nat.reduceEqDiff, Nat.reduceLeDiff, Nat.reduceLT, Nat.reduceSub]
    | simp (disch := omega) only [wrap_in, toNat_succ, toNat_pred, Int.toNat_natCast]
    | with_reducible refine And.intro (by omega) ?_
    | with_reducible refine exI (by omega) ?_
    | fail
  all_goals
    refine ⟨?_, Keeps.refl h⟩
    congr 1; symm; unfold hasN; simp; omega
theorem state_within_spec (x lo hi : Int) : PureF Try.prog 64 [.int .i64 x, .int .i64 lo, .int .i64 hi] (.bool (withinB x lo hi)) := by
  refine PureF.of_awp mixed (fun _ => []) (fn := Try.f64) (by kernel_rfl) rfl (by kernel_rfl) (by show 3 ≤ _; decide) (by simp [AV.lf]) (fun h => ?_)
  repeat' first
    | (with_reducible refine CondX.dec (fun c => ?_) (fun c => ?_)) <;> try (exfalso; omega)
    | (with_reducible refine CondX.beq (fun c => ?_) (fun c => ?_)) <;> try (exfalso; omega)
    | (with_reducible refine CondX.bne (fun c => ?_) (fun c => ?_)) <;> try (exfalso; omega)
    | (with_reducible refine CondX.bool (fun c => ?_) (fun c => ?_)) <;> try (exfalso; omega)
    | simp only [go_sem, I_eq, I_cells, Nat.reduceAdd, Nat.reduceBEq, Nat.reduceEqDiff, Nat.reduceLeDiff, Nat.reduceLT, Nat.reduceSub]
    | simp (disch := omega) only [wrap_in, toNat_succ, toNat_pred, Int.toNat_natCast]
    | with_reducible refine And.intro (by omega) ?_
    | with_reducible refine exI (by omega) ?_
    | fail
  all_goals
    refine ⟨?_, Keeps.refl h⟩
    congr 1; symm; unfold withinB; simp; omega
theorem Neighbours_spec (ps : List Int) (v : Int) (hlen : ps.length < 2 ^ 29) : PureF Try.prog 55 [treeV ps, .int .i64 v] (.l false 1 ((nbr ps v).map I)) := by
  refine PureF.of_awpZ mixed (fun _ => []) (fn := Try.f55) (by kernel_rfl) rfl (by kernel_rfl) (by show 2 ≤ _; decide) (by simp [AV.lf, I_lfs]) (fun h => ?_)
  simp only [go_sem, I_eq, I_cells, Nat.reduceAdd, Nat.reduceBEq, Nat.reduceEqDiff, Nat.reduceLeDiff, Nat.reduceLT, Nat.reduceSub]
  refine CallX.pure (has_spec ps v) ?_
  cases hv : hasN ps v
  · simp only [go_sem, I_eq, I_cells, hv, Nat.reduceAdd, Nat.reduceBEq, Nat.reduceEqDiff, Nat.reduceLeDiff, Nat.reduceLT, Nat.reduceSub]
    exact ⟨h, .done _ _ _ (by simp only [nbr, hv]; exact Le.l0), Keeps.refl h⟩
  · have hv' := hv
    unfold hasN at hv'
    simp only [decide_eq_true_eq] at hv'
    have hn : v.toNat < (nears ps).length := by unfold nears; simp; omega
    simp only [go_sem, I_eq, I_cells, hv, treeV, Nat.reduceAdd, Nat.reduceBEq, Nat.reduceEqDiff, Nat.reduceLeDiff, Nat.reduceLT, Nat.reduceSub]
    refine ⟨by omega, by simpa using hn, ?_⟩
    have e1 : (nears ps)[v.toNat] = nbr ps v := by simp [nears, nbr, hv]
    simp only [go_sem, I_eq, I_cells, nearC, e1, Nat.reduceAdd, Nat.reduceBEq, Nat.reduceEqDiff, Nat.reduceLeDiff, Nat.reduceLT, Nat.reduceSub]
    have := nbr_len ps v
    refine CallX.pure (f47_spec _ _ (by omega)) ?_
    exact ⟨h, .done _ _ _ (Le.refl _), Keeps.refl h⟩
theorem Next_spec (ps : List Int) (v to : Int) (hok : TreeOk ps) : PureF Try.prog 67 [treeV ps, .int .i64 v, .int .i64 to] (.int .i64 (nextT ps v to)) := by
  refine PureF.of_awp mixed (fun _ => []) (fn := Try.f67) (by kernel_rfl) rfl (by kernel_rfl) (by show 3 ≤ _; decide) (by simp [AV.lf]) (fun h => ?_)
  repeat' first
    | (with_reducible refine CondX.dec (fun c => ?_) (fun c => ?_)) <;> try (exfalso; omega)
    | (with_reducible refine CondX.beq (fun c => ?_) (fun c => ?_)) <;> try (exfalso; omega)
    | (with_reducible refine CondX.bne (fun c => ?_) (fun c => ?_)) <;> try (exfalso; omega)
    | (with_reducible refine CondX.bool (fun c => ?_) (fun c => ?_)) <;> try (exfalso; omega)
    | ((with_reducible refine CallX.id ?_); first | refine CallX.pure (has_spec ps v) ?_ | refine CallX.pure (has_spec ps to) ?_)
    | simp only [go_sem, I_eq, I_cells, Nat.reduceAdd, Nat.reduceBEq, Nat.reduceEqDiff, Nat.reduceLeDiff, Nat.reduceLT, Nat.reduceSub]
    | simp (disch := omega) only [wrap_in, toNat_succ, toNat_pred, Int.toNat_natCast]
    | with_reducible refine And.intro (by omega) ?_
    | with_reducible refine exI (by omega) ?_
    | fail
  · exact ⟨by simp only [nextT, *, Bool.and_self, if_true], Keeps.refl h⟩
  · rename_i c1 c2
    have e0 : nextT ps v to = nextUp ps v ps.length to := by simp only [nextT, c1, c2, Bool.and_self, if_true, if_neg c]
    simp only [hasN, decide_eq_true_eq] at c1 c2
    obtain ⟨v, rfl⟩ : ∃ v' : Nat, v = v' := ⟨v.toNat, by omega⟩
    obtain ⟨to, rfl⟩ : ∃ v' : Nat, to = v' := ⟨to.toNat, by omega⟩
    have lv : v < ps.length := by omega
    refine awp_fuel (fun k s => s.slots 0 = treeV ps ∧ s.slots 1 = .int .i64 v ∧ s.hp = h ∧ ∃ a : Int, s.slots 7 = .int .i64 a ∧ nextT ps v to = nextUp ps v k a ∧ (a = -1 ∨ ∃ u : Nat, a = u ∧ u < ps.length ∧ climb ps k u = true)) ps.length ?_ ?_
    · simp only [go_sem, I_eq, I_cells, treeV, Nat.reduceAdd, Nat.reduceBEq, Nat.reduceEqDiff, Nat.reduceLeDiff, Nat.reduceLT, Nat.reduceSub]
      exact ⟨to, rfl, e0, .inr ⟨to, rfl, by omega, hok.climb to (by omega)⟩⟩
    · rintro k s ⟨g0, g1, gH, a, g7, ga, ha⟩
      rcases ha with rfl | ⟨u, rfl, hu, hc⟩
      · simp only [go_sem, I_eq, I_cells, g0, g1, gH, g7, treeV, Nat.reduceAdd, Nat.reduceBEq, Nat.reduceEqDiff, Nat.reduceLeDiff, Nat.reduceLT, Nat.reduceSub]
        repeat' first
          | (with_reducible refine CondX.dec (fun c => ?_) (fun c => ?_)) <;> try (exfalso; omega)
          | (with_reducible refine CondX.beq (fun c => ?_) (fun c => ?_)) <;> try (exfalso; omega)
          | (with_reducible refine CondX.bne (fun c => ?_) (fun c => ?_)) <;> try (exfalso; omega)
          | (with_reducible refine CondX.bool (fun c => ?_) (fun c => ?_)) <;> try (exfalso; omega)
          | simp only [go_sem, I_eq, I_cells, g0, g1, gH, g7, treeV, Nat.reduceAdd, Nat.reduceBEq, Nat.reduceEqDiff, Nat.reduceLeDiff, Nat.reduceLT, Nat.reduceSub]
          | simp (disch := omega) only [wrap_in, toNat_succ, toNat_pred, Int.toNat_natCast]
          | with_reducible refine And.intro (by omega) ?_
          | with_reducible refine exI (by omega) ?_
          | fail
        exact ⟨by rw [ga]; cases k <;> simp [nextUp, lv], Keeps.refl h⟩
      · have k0 := hok.in hu
        cases k with
        | zero => simp [climb] at hc
        | succ k =>
          have hs : nextUp ps v (k + 1) u = if ps[u] = v then (u : Int) else nextUp ps v k ps[u] := by
            rw [nextUp, if_neg (by omega)]; simp [hu]
          have hc' : climb ps (k + 1) u = if ps[u] = -1 then true else climb ps k ps[u] := by
            rw [climb]; simp [hu]
          repeat' first
            | (with_reducible refine CondX.dec (fun c => ?_) (fun c => ?_)) <;> try (exfalso; omega)
            | (with_reducible refine CondX.beq (fun c => ?_) (fun c => ?_)) <;> try (exfalso; omega)
            | (with_reducible refine CondX.bne (fun c => ?_) (fun c => ?_)) <;> try (exfalso; omega)
            | (with_reducible refine CondX.bool (fun c => ?_) (fun c => ?_)) <;> try (exfalso; omega)
            | simp only [go_sem, I_eq, I_cells, g0, g1, gH, g7, treeV, Nat.reduceAdd, Nat.reduceBEq, Nat.reduceEqDiff, Nat.reduceLeDiff, Nat.reduceLT, Nat.reduceSub]
            | simp (disch := omega) only [wrap_in, toNat_succ, toNat_pred, Int.toNat_natCast]
            | with_reducible refine And.intro (by omega) ?_
            | with_reducible refine exI (by omega) ?_
            | fail
          · exact ⟨by rw [ga, hs, if_pos c], Keeps.refl h⟩
          · refine ⟨k, by omega, _, rfl, by rw [ga, hs, if_neg c], ?_⟩
            rw [hc'] at hc
            by_cases hm : ps[u] = -1
            · exact .inl hm
            · rw [if_neg hm] at hc
              exact .inr ⟨ps[u].toNat, by omega, by omega, by rw [show ((ps[u].toNat : Nat) : Int) = ps[u] by omega]; exact hc⟩
  all_goals exact ⟨by simp [nextT, *], Keeps.refl h⟩
end Go.Proofs.Ytmajndgdfmnchaa
/- States: what can be. -/
namespace Go.Gh
def meantB (n k : Int) (m : Msg) : Bool := decide (0 ≤ m.obj ∧ m.obj < k) && withinB m.node 0 (n - 1) && withinB m.where' 0 (n - 1)
def lastOk (o : Own) : Bool := match o.cells.getLast? with
  | none => true
  | some c => decide (c.num ≤ o.made)
def ownB (ps : List Int) (me : Int) (o : Own) : Bool :=
  (o.arrow == me || decide (o.arrow ∈ nbr ps me)) && withinB o.made 0 1099511627776 && goodC o.cells me (o.arrow == me) && o.cells.all (fun c => decide (c.node < ps.length)) && lastOk o
def openS (os : List Own) : Nat := (os.map fun o => openN o.cells).sum
def edgeB (n k : Int) (p : Int × Sid) : Bool := p.2.peer == p.1 && goodE p.2 && p.2.out.all (meantB n k)
def edgesB (ps : List Int) (s : Nst) : Bool := (nbr ps s.me).length == s.edges.length && ((nbr ps s.me).zip s.edges).all (edgeB ps.length s.objs.length)
def asksB (k asked : Int) : Int → List Ask → Bool
  | _, [] => true
  | last, a :: r => withinB a.obj 0 (k - 1) && !decide (a.num ≤ last) && !decide (a.num > asked) && asksB k asked a.num r
def foundB (n k asked : Int) (f : Found) : Bool := withinB f.obj 0 (k - 1) && withinB f.num 1 asked && withinB f.where' 0 (n - 1)
def goodS (ps : List Int) (s : Nst) : Bool :=
  withinB s.me 0 (ps.length - 1) && withinB s.objs.length 1 8 && withinB s.asked 0 1099511627776 && decide (s.asks.length ≤ 4) && decide (s.got.length ≤ 4) &&
  s.objs.all (ownB ps s.me) && asksB s.objs.length s.asked 0 s.asks && s.got.all (foundB ps.length s.objs.length s.asked) && edgesB ps s && decide (openS s.objs ≤ 8)
/-- What lists can be long. -/
structure Sized (s : Nst) : Prop where
  objs : s.objs.length ≤ 9223372036854775807
  edges : s.edges.length ≤ 9223372036854775807
  asks : s.asks.length ≤ 9223372036854775807
  got : s.got.length ≤ 9223372036854775807
  cells : ∀ o ∈ s.objs, o.cells.length ≤ 9223372036854775807
  out : ∀ e ∈ s.edges, e.out.length ≤ 9223372036854775807
theorem goodE_len {e : Sid} (h : goodE e = true) : e.out.length ≤ 1024 := by
  unfold goodE at h; simp only [Bool.and_eq_true, decide_eq_true_eq] at h; exact h.1.1.2
end Go.Gh
namespace Go.Proofs.Ytmajndgdfmnchaa
open Go Go.T Go.Gh Go.Proofs
set_option linter.unusedSimpArgs false
set_option maxRecDepth 10000
def encO (o : Gh.Own) : AV := .agg [.int .i64 o.arrow, .int .i64 o.made, .l false 4 (o.cells.map encC)]
theorem encO_cells (o : Gh.Own) : (encO o).cells = [.int .i64 o.arrow, .int .i64 o.made, .l false 4 (o.cells.map encC)] := by simp [encO, AV.cells]
def encA (a : Gh.Ask) : AV := .agg [.int .i64 a.obj, .int .i64 a.num]
theorem encA_cells (a : Gh.Ask) : (encA a).cells = [.int .i64 a.obj, .int .i64 a.num] := by simp [encA, AV.cells]
def encF (f : Gh.Found) : AV := .agg [.int .i64 f.obj, .int .i64 f.num, .int .i64 f.where']
theorem encF_cells (f : Gh.Found) : (encF f).cells = [.int .i64 f.obj, .int .i64 f.num, .int .i64 f.where'] := by simp [encF, AV.cells]
def encS (s : Nst) : AV := .agg [.int .i64 s.me, .l false 3 (s.objs.map encO), .l false 4 (s.edges.map encE), .int .i64 s.asked, .l false 2 (s.asks.map encA), .l false 3 (s.got.map encF)]
theorem encS_cells (s : Nst) : (encS s).cells = [.int .i64 s.me, .l false 3 (s.objs.map encO), .l false 4 (s.edges.map encE), .int .i64 s.asked, .l false 2 (s.asks.map encA), .l false 3 (s.got.map encF)] := by simp [encS, AV.cells]
theorem ContainsFunc_Msg_at {g : Nat} {caps : List AV} (p : Msg → Bool) (ns : List Msg) (ex : Bool) (hlen : ns.length < 2 ^ 61) (h : Hp) (hb : hasBody Try.prog g = true)
    (hf : ∀ x ∈ ns, CallK Try.prog g ([encM x] ++ caps) h (fun r h' => r = .bool (p x) ∧ h' = h)) :
    CallK Try.prog 109 [.l ex 5 (ns.map encM), .fn (.func g) caps] h (fun r h' => r = .bool (ns.any p) ∧ h' = h) := by
  refine PureAt.of_awp mixed (fun _ => []) (fn := Try.f109) (by kernel_rfl) rfl (by kernel_rfl) (by show 2 ≤ _; decide) (by simp [AV.lf]) ?_
  repeat' first
    | (with_reducible refine CondX.dec (fun c => ?_) (fun c => ?_)) <;> try (exfalso; omega)
    | (with_reducible refine CondX.beq (fun c => ?_) (fun c => ?_)) <;> try (exfalso; omega)
    | (with_reducible refine CondX.bne (fun c => ?_) (fun c => ?_)) <;> try (exfalso; omega)
    | (with_reducible refine CondX.bool (fun c => ?_) (fun c => ?_)) <;> try (exfalso; omega)
    | ((with_reducible refine CallX.id ?_); first | refine CallX.at (f125_at p ns ex hlen h hb hf) ?_)
    | simp only [go_sem, I_eq, I_cells, Nat.reduceAdd, Nat.reduceBEq, Nat.reduceEqDiff, Nat.reduceLeDiff, Nat.reduceLT, Nat.reduceSub]
    | simp (disch := omega) only [wrap_in, toNat_succ, toNat_pred, Int.toNat_natCast]
    | with_reducible refine And.intro (by omega) ?_
    | with_reducible refine exI (by omega) ?_
    | fail
  exact ⟨by rw [idxP_any], Keeps.refl h⟩
def T111 : Nat → List Tg := fun id => if id = 1 then [.plain, .plain, .plain, .plain, .plain, .plain, .plain, .plain, .plain, .plain, .plain, .plain, .plain, .pure, .plain, .pure, .plain, .plain, .plain, .plain, .plain, .pure, .plain, .pure] else []
theorem Meant_spec (ps : List Int) (k : Int) (m : Msg) (hlen : ps.length < 2 ^ 61) : PureF Try.prog 111 [treeV ps, .int .i64 k, encM m] (.bool (meantB ps.length k m)) := by
  refine PureF.of_awp mixed T111 (fn := Try.f111) (by kernel_rfl) rfl (by kernel_rfl) (by show 3 ≤ _; decide) (by simp [AV.lf]) (fun h => ?_)
  have hwn : IntKind.i64.wrap ((ps.length : Int) - 1) = (ps.length : Int) - 1 := IntWalk.i64_in _ (by omega)
  repeat' first
    | (with_reducible refine CondX.dec (fun c => ?_) (fun c => ?_)) <;> try (exfalso; omega)
    | (with_reducible refine CondX.beq (fun c => ?_) (fun c => ?_)) <;> try (exfalso; omega)
    | (with_reducible refine CondX.bne (fun c => ?_) (fun c => ?_)) <;> try (exfalso; omega)
    | (with_reducible refine CondX.bool (fun c => ?_) (fun c => ?_)) <;> try (exfalso; omega)
    | ((with_reducible refine CallX.id ?_); first | refine CallX.pure (Size_spec ps) ?_ | refine CallX.pure (state_within_spec _ _ _) ?_)
    | ((with_reducible refine PureX.id ?_); first | refine PureX.of (Size_spec ps) ?_ | refine PureX.of (state_within_spec _ _ _) ?_)
    | simp only [go_sem, I_eq, I_cells, T111, hwn, encM, encM_cells, Nat.reduceAdd, Nat.reduceBEq, Nat.reduceEqDiff, Nat.reduceLeDiff, Nat.reduceLT, Nat.reduceSub]
    | simp (disch := omega) only [wrap_in, toNat_succ, toNat_pred, Int.toNat_natCast]
    | with_reducible refine And.intro (by omega) ?_
    | with_reducible refine exI (by omega) ?_
    | fail
  all_goals
    refine ⟨?_, by ((repeat with_reducible apply Keeps.alloc); first | assumption | exact Keeps.refl _)⟩
    simp [meantB, *]
theorem edges1_spec (ps : List Int) (s : Nst) (m : Msg) (L2 L3 : Lab) (h : Hp) (h2 : h.con L2 = .blk [treeV ps]) (h3 : h.con L3 = .blk (encS s).cells) (n2 : L2.f ≠ 110) (n3 : L3.f ≠ 110) (hlen : ps.length < 2 ^ 61) :
    CallK Try.prog 110 [encM m, .pt L2 0 0 0, .pt L3 0 0 0] h (fun r h' => r = .bool (!meantB ps.length s.objs.length m) ∧ h' = h) := by
  refine PureAt.of_awp mixed (fun _ => []) (fn := Try.f110) (by kernel_rfl) rfl (by kernel_rfl) (by show 3 ≤ _; decide) (by simp [AV.lf]) ?_
  have e2 : (L2 = ⟨110, 3, h.cnt 110 3⟩) = False := by simp; rintro rfl; exact n2 rfl
  have e3 : (L3 = ⟨110, 3, h.cnt 110 3⟩) = False := by simp; rintro rfl; exact n3 rfl
  repeat' first
    | (with_reducible refine CondX.dec (fun c => ?_) (fun c => ?_)) <;> try (exfalso; omega)
    | (with_reducible refine CondX.beq (fun c => ?_) (fun c => ?_)) <;> try (exfalso; omega)
    | (with_reducible refine CondX.bne (fun c => ?_) (fun c => ?_)) <;> try (exfalso; omega)
    | (with_reducible refine CondX.bool (fun c => ?_) (fun c => ?_)) <;> try (exfalso; omega)
    | ((with_reducible refine CallX.id ?_); first | refine CallX.pure (Meant_spec ps _ m hlen) ?_)
    | simp only [go_sem, I_eq, I_cells, encM, encS_cells, e2, e3, h2, h3, Nat.reduceAdd, Nat.reduceBEq, Nat.reduceEqDiff, Nat.reduceLeDiff, Nat.reduceLT, Nat.reduceSub]
    | simp (disch := omega) only [wrap_in, toNat_succ, toNat_pred, Int.toNat_natCast]
    | with_reducible refine And.intro (by omega) ?_
    | with_reducible refine exI (by omega) ?_
    | fail
  ((repeat with_reducible apply Keeps.alloc); first | assumption | exact Keeps.refl _)
theorem openS_le (os : List Gh.Own) (hc : ∀ o ∈ os, o.cells.length ≤ 1099511627777) : ∀ i, openS (os.take i) ≤ i * 1099511627777 := by
  intro i
  induction i with
  | zero => simp [openS]
  | succ i ih =>
    by_cases hi : i < os.length
    · rw [List.take_succ_eq_append_getElem hi]
      have h1 := openN_le os[i].cells
      have h2 := hc _ (List.getElem_mem hi)
      simp only [openS, List.map_append, List.map_cons, List.map_nil, List.sum_append, List.sum_cons, List.sum_nil] at ih ⊢
      omega
    · rw [List.take_of_length_le (by omega)]
      rw [List.take_of_length_le (by omega)] at ih
      exact Nat.le_trans ih (Nat.mul_le_mul_right _ (Nat.le_succ i))
theorem openS_next {os : List Gh.Own} {i : Nat} (hlt : i < os.length) : openS (os.take (i + 1)) = openS (os.take i) + openN os[i].cells := by
  rw [List.take_succ_eq_append_getElem hlt]; simp only [openS, List.map_append, List.map_cons, List.map_nil, List.sum_append, List.sum_cons, List.sum_nil, Nat.add_zero]
theorem Open_spec (s : Nst) (ho : s.objs.length ≤ 8) (hc : ∀ o ∈ s.objs, o.cells.length ≤ 1099511627777) : PureF Try.prog 81 [encS s] (.int .i64 (openS s.objs)) := by
  refine PureF.of_awp mixed (fun _ => []) (fn := Try.f81) (by kernel_rfl) rfl (by kernel_rfl) (by show 1 ≤ _; decide) (by simp [AV.lf]) (fun h => ?_)
  have hb := openS_le s.objs hc
  repeat' first
    | (with_reducible refine CondX.dec (fun c => ?_) (fun c => ?_)) <;> try (exfalso; omega)
    | (with_reducible refine CondX.beq (fun c => ?_) (fun c => ?_)) <;> try (exfalso; omega)
    | (with_reducible refine CondX.bne (fun c => ?_) (fun c => ?_)) <;> try (exfalso; omega)
    | (with_reducible refine CondX.bool (fun c => ?_) (fun c => ?_)) <;> try (exfalso; omega)
    | simp only [go_sem, I_eq, I_cells, encS, encS_cells, Nat.reduceAdd, Nat.reduceBEq, Nat.reduceEqDiff, Nat.reduceLeDiff, Nat.reduceLT, Nat.reduceSub]
    | simp (disch := omega) only [wrap_in, toNat_succ, toNat_pred, Int.toNat_natCast]
    | with_reducible refine And.intro (by omega) ?_
    | with_reducible refine exI (by omega) ?_
    | fail
  refine awp_count 9 8 s.objs.length (by omega) (fun i t => t.slots 7 = .l false 3 (s.objs.map encO) ∧ t.slots 3 = .int .i64 (openS (s.objs.take i)) ∧ Keeps h t.hp) ?_ ?_ ?_ ?_ ?_
  · simp only [go_sem, I_eq, I_cells, Nat.reduceAdd, Nat.reduceBEq, Nat.reduceEqDiff, Nat.reduceLeDiff, Nat.reduceLT, Nat.reduceSub]
  · simp only [go_sem, I_eq, I_cells, Nat.reduceAdd, Nat.reduceBEq, Nat.reduceEqDiff, Nat.reduceLeDiff, Nat.reduceLT, Nat.reduceSub]
  · simp only [go_sem, I_eq, I_cells, Nat.reduceAdd, Nat.reduceBEq, Nat.reduceEqDiff, Nat.reduceLeDiff, Nat.reduceLT, Nat.reduceSub]
    exact ⟨by simp [openS], by ((repeat with_reducible apply Keeps.alloc); first | assumption | exact Keeps.refl _)⟩
  · rintro i t hlt d2 hw g9 g8 ⟨g7, g3, hH⟩
    have hl := hc _ (List.getElem_mem hlt)
    have h1 := openN_le s.objs[i].cells
    have h2 := hb i
    have h4 : i * 1099511627777 ≤ 8 * 1099511627777 := Nat.mul_le_mul_right _ (by omega)
    have hst := openS_next hlt
    repeat' first
      | (with_reducible refine CondX.dec (fun c => ?_) (fun c => ?_)) <;> try (exfalso; omega)
      | (with_reducible refine CondX.beq (fun c => ?_) (fun c => ?_)) <;> try (exfalso; omega)
      | (with_reducible refine CondX.bne (fun c => ?_) (fun c => ?_)) <;> try (exfalso; omega)
      | (with_reducible refine CondX.bool (fun c => ?_) (fun c => ?_)) <;> try (exfalso; omega)
      | ((with_reducible refine CallX.id ?_); first | refine CallX.pure (f112_spec _ _ (by omega)) ?_)
      | simp only [go_sem, I_eq, I_cells, d2, hw, g9, g8, g7, g3, encO_cells, Nat.reduceAdd, Nat.reduceBEq, Nat.reduceEqDiff, Nat.reduceLeDiff, Nat.reduceLT, Nat.reduceSub]
      | simp (disch := omega) only [wrap_in, toNat_succ, toNat_pred, Int.toNat_natCast]
      | with_reducible refine And.intro (by omega) ?_
      | with_reducible refine exI (by omega) ?_
      | fail
    exact ⟨by rw [hst]; push_cast; rfl, by ((repeat with_reducible apply Keeps.alloc); first | assumption | exact Keeps.refl _)⟩
  · rintro t d2 g9 g8 ⟨g7, g3, hH⟩
    rw [List.take_length] at g3
    simp only [go_sem, I_eq, I_cells, d2, g9, g8, g7, g3, Nat.reduceAdd, Nat.reduceBEq, Nat.reduceEqDiff, Nat.reduceLeDiff, Nat.reduceLT, Nat.reduceSub]
    exact hH
end Go.Proofs.Ytmajndgdfmnchaa
/- States: what can be, all of it. -/
namespace Go.Proofs.Ytmajndgdfmnchaa
open Go Go.T Go.Gh Go.Proofs
set_option linter.unusedSimpArgs false
set_option maxRecDepth 10000
set_option maxHeartbeats 4000000
def T79 : Nat → List Tg := fun id => if id = 1 then [.plain, .plain, .plain, .plain, .plain, .plain, .plain, .pure, .plain, .plain, .pure, .plain, .plain, .plain, .plain, .plain, .pure, .plain, .plain, .plain, .plain, .plain, .plain, .plain, .plain, .plain, .plain, .pure] else if id = 6 then [.plain, .plain, .plain, .pure] else []
theorem own_spec (ps : List Int) (me : Int) (o : Gh.Own) (hlen : ps.length < 2 ^ 29) (hc : o.cells.length ≤ 9223372036854775807) : PureF Try.prog 79 [treeV ps, .int .i64 me, encO o] (.bool (ownB ps me o)) := by
  refine PureF.of_awp mixed T79 (fn := Try.f79) (by kernel_rfl) rfl (by kernel_rfl) (by show 3 ≤ _; decide) (by simp [AV.lf]) (fun h => ?_)
  have hnl := nbr_len ps me
  obtain ⟨g, hg⟩ : ∃ g, goodC o.cells me (o.arrow == me) = g := ⟨_, rfl⟩
  have hown : ownB ps me o = ((o.arrow == me || decide (o.arrow ∈ nbr ps me)) && withinB o.made 0 1099511627776 && g && o.cells.all (fun c => decide (c.node < ps.length)) && lastOk o) := by rw [← hg]; rfl
  rw [awp_assoc]
  refine awp_cut (fun s => s.slots 0 = treeV ps ∧ s.slots 5 = .pt ⟨79, 5, h.cnt 79 5⟩ 0 0 0 ∧ s.hp.con ⟨79, 5, h.cnt 79 5⟩ = .blk (encO o).cells ∧ Keeps h s.hp ∧ ((o.arrow == me || decide (o.arrow ∈ nbr ps me)) && withinB o.made 0 1099511627776 && g) = true) ?_ ?_
  · repeat' first
      | (with_reducible refine CondX.dec (fun c => ?_) (fun c => ?_)) <;> try (exfalso; omega)
      | (with_reducible refine CondX.beq (fun c => ?_) (fun c => ?_)) <;> try (exfalso; omega)
      | (with_reducible refine CondX.bne (fun c => ?_) (fun c => ?_)) <;> try (exfalso; omega)
      | (with_reducible refine CondX.bool (fun c => ?_) (fun c => ?_)) <;> try (exfalso; omega)
      | ((with_reducible refine CallX.id ?_); first | refine CallX.pure (Neighbours_spec ps me hlen) ?_ | refine CallX.pure (Contains_int_spec _ _ _ (by omega)) ?_ | refine CallX.pure (state_within_spec _ _ _) ?_ | refine CallX.pure (chain_Good_spec _ _ _ _ (by omega)) ?_)
      | ((with_reducible refine PureX.id ?_); first | refine PureX.of (Neighbours_spec ps me hlen) ?_ | refine PureX.of (Contains_int_spec _ _ _ (by omega)) ?_ | refine PureX.of (state_within_spec _ _ _) ?_ | refine PureX.of (chain_Good_spec _ _ _ _ (by omega)) ?_)
      | simp only [go_sem, I_eq, I_cells, T79, encO, encO_cells, hg, Nat.reduceAdd, Nat.reduceBEq, Nat.reduceEqDiff, Nat.reduceLeDiff, Nat.reduceLT, Nat.reduceSub]
      | simp (disch := omega) only [wrap_in, toNat_succ, toNat_pred, Int.toNat_natCast]
      | with_reducible refine And.intro (by omega) ?_
      | with_reducible refine exI (by omega) ?_
      | fail
    all_goals first
      | exact ⟨by rw [hown]; simp [*], by ((repeat with_reducible apply Keeps.alloc); first | assumption | exact Keeps.refl _)⟩
      | exact ⟨by ((repeat with_reducible apply Keeps.alloc); first | assumption | exact Keeps.refl _), by simp [*]⟩
  · rintro s ⟨g0, g5, gB, gH, hh⟩
    rw [hh, Bool.true_and] at hown
    repeat' first
      | (with_reducible refine CondX.dec (fun c => ?_) (fun c => ?_)) <;> try (exfalso; omega)
      | (with_reducible refine CondX.beq (fun c => ?_) (fun c => ?_)) <;> try (exfalso; omega)
      | (with_reducible refine CondX.bne (fun c => ?_) (fun c => ?_)) <;> try (exfalso; omega)
      | (with_reducible refine CondX.bool (fun c => ?_) (fun c => ?_)) <;> try (exfalso; omega)
      | simp only [go_sem, I_eq, I_cells, T79, g0, g5, gB, encO_cells, Nat.reduceAdd, Nat.reduceBEq, Nat.reduceEqDiff, Nat.reduceLeDiff, Nat.reduceLT, Nat.reduceSub]
      | simp (disch := omega) only [wrap_in, toNat_succ, toNat_pred, Int.toNat_natCast]
      | with_reducible refine And.intro (by omega) ?_
      | with_reducible refine exI (by omega) ?_
      | fail
    refine awp_count 43 42 o.cells.length (by omega) (fun i s => s.slots 0 = treeV ps ∧ s.slots 41 = .l false 4 (o.cells.map encC) ∧ s.slots 5 = .pt ⟨79, 5, h.cnt 79 5⟩ 0 0 0 ∧ s.hp.con ⟨79, 5, h.cnt 79 5⟩ = .blk (encO o).cells ∧ Keeps h s.hp ∧ o.cells.all (fun c => decide (c.node < ps.length)) = (o.cells.drop i).all (fun c => decide (c.node < ps.length))) ?_ ?_ ?_ ?_ ?_
    · simp only [go_sem, I_eq, I_cells, Nat.reduceAdd, Nat.reduceBEq, Nat.reduceEqDiff, Nat.reduceLeDiff, Nat.reduceLT, Nat.reduceSub]
    · simp only [go_sem, I_eq, I_cells, Nat.reduceAdd, Nat.reduceBEq, Nat.reduceEqDiff, Nat.reduceLeDiff, Nat.reduceLT, Nat.reduceSub]
    · simp only [go_sem, I_eq, I_cells, g0, g5, gB, encO_cells, Nat.reduceAdd, Nat.reduceBEq, Nat.reduceEqDiff, Nat.reduceLeDiff, Nat.reduceLT, Nat.reduceSub]
      exact gH
    · clear g0 g5 gB gH
      rintro i s hlt d2 hw g43 g42 ⟨g0, g41, g5, gB, gH, ha⟩
      rw [drop_cons hlt, List.all_cons] at ha
      repeat' first
        | (with_reducible refine CondX.dec (fun c => ?_) (fun c => ?_)) <;> try (exfalso; omega)
        | (with_reducible refine CondX.beq (fun c => ?_) (fun c => ?_)) <;> try (exfalso; omega)
        | (with_reducible refine CondX.bne (fun c => ?_) (fun c => ?_)) <;> try (exfalso; omega)
        | (with_reducible refine CondX.bool (fun c => ?_) (fun c => ?_)) <;> try (exfalso; omega)
        | ((with_reducible refine CallX.id ?_); first | refine CallX.pure (Size_spec ps) ?_)
        | ((with_reducible refine PureX.id ?_); first | refine PureX.of (Size_spec ps) ?_)
        | simp only [go_sem, I_eq, I_cells, T79, d2, hw, g43, g42, g0, g41, g5, gB, encO_cells, encC_cells, Nat.reduceAdd, Nat.reduceBEq, Nat.reduceEqDiff, Nat.reduceLeDiff, Nat.reduceLT, Nat.reduceSub]
        | simp (disch := omega) only [wrap_in, toNat_succ, toNat_pred, Int.toNat_natCast]
        | with_reducible refine And.intro (by omega) ?_
        | with_reducible refine exI (by omega) ?_
        | fail
      · exact ⟨by rw [hown, ha, decide_eq_false (show ¬ (o.cells[i].node < ps.length) by omega)]; simp, by ((repeat with_reducible apply Keeps.alloc); first | assumption | exact Keeps.refl _)⟩
      · exact ⟨by ((repeat with_reducible apply Keeps.alloc); first | assumption | exact Keeps.refl _), by rw [ha, decide_eq_true (show o.cells[i].node < ps.length by omega)]; simp⟩
    · clear g0 g5 gB gH
      rintro s d2 g43 g42 ⟨g0, g41, g5, gB, gH, ha⟩
      rw [List.drop_length] at ha
      have hwn : IntKind.i64.wrap ((o.cells.length : Int) - 1) = (o.cells.length : Int) - 1 := IntWalk.i64_in _ (by omega)
      repeat' first
        | (with_reducible refine CondX.dec (fun c => ?_) (fun c => ?_)) <;> try (exfalso; omega)
        | (with_reducible refine CondX.beq (fun c => ?_) (fun c => ?_)) <;> try (exfalso; omega)
        | (with_reducible refine CondX.bne (fun c => ?_) (fun c => ?_)) <;> try (exfalso; omega)
        | (with_reducible refine CondX.bool (fun c => ?_) (fun c => ?_)) <;> try (exfalso; omega)
        | simp only [go_sem, I_eq, I_cells, T79, d2, hwn, g43, g42, g0, g41, g5, gB, encO_cells, encC_cells, Nat.reduceAdd, Nat.reduceBEq, Nat.reduceEqDiff, Nat.reduceLeDiff, Nat.reduceLT, Nat.reduceSub]
        | simp (disch := omega) only [wrap_in, toNat_succ, toNat_pred, Int.toNat_natCast]
        | with_reducible refine And.intro (by omega) ?_
        | with_reducible refine exI (by omega) ?_
        | fail
      · refine ⟨?_, by ((repeat with_reducible apply Keeps.alloc); first | assumption | exact Keeps.refl _)⟩
        have : o.cells = [] := List.length_eq_zero_iff.1 (by omega)
        rw [hown, ha]; simp [lastOk, this]
      · refine ⟨?_, by ((repeat with_reducible apply Keeps.alloc); first | assumption | exact Keeps.refl _)⟩
        have : o.cells.getLast? = some o.cells[o.cells.length - 1] := by rw [List.getLast?_eq_getElem?, List.getElem?_eq_getElem]
        rw [hown, ha]; simp [lastOk, this]
theorem edges_spec (ps : List Int) (s : Nst) (hlen : ps.length < 2 ^ 29) (hs : Sized s) : PureF Try.prog 80 [treeV ps, encS s] (.bool (edgesB ps s)) := by
  refine PureF.of_awp mixed (fun _ => []) (fn := Try.f80) (by kernel_rfl) rfl (by kernel_rfl) (by show 2 ≤ _; decide) (by simp [AV.lf]) (fun h => ?_)
  have hnl := nbr_len ps s.me
  have hel := hs.edges
  repeat' first
    | (with_reducible refine CondX.dec (fun c => ?_) (fun c => ?_)) <;> try (exfalso; omega)
    | (with_reducible refine CondX.beq (fun c => ?_) (fun c => ?_)) <;> try (exfalso; omega)
    | (with_reducible refine CondX.bne (fun c => ?_) (fun c => ?_)) <;> try (exfalso; omega)
    | (with_reducible refine CondX.bool (fun c => ?_) (fun c => ?_)) <;> try (exfalso; omega)
    | ((with_reducible refine CallX.id ?_); first | refine CallX.pure (Neighbours_spec ps s.me hlen) ?_)
    | simp only [go_sem, I_eq, I_cells, encS, encS_cells, Nat.reduceAdd, Nat.reduceBEq, Nat.reduceEqDiff, Nat.reduceLeDiff, Nat.reduceLT, Nat.reduceSub]
    | simp (disch := omega) only [wrap_in, toNat_succ, toNat_pred, Int.toNat_natCast]
    | with_reducible refine And.intro (by omega) ?_
    | with_reducible refine exI (by omega) ?_
    | fail
  · exact ⟨by simp only [edgesB]; rw [beq_eq_false_iff_ne.2 (show (nbr ps s.me).length ≠ s.edges.length by omega)]; rfl, by ((repeat with_reducible apply Keeps.alloc); first | assumption | exact Keeps.refl _)⟩
  have hz : ((nbr ps s.me).zip s.edges).length = s.edges.length := by simp; omega
  have he : edgesB ps s = ((nbr ps s.me).zip s.edges).all (edgeB ps.length s.objs.length) := by
    simp only [edgesB]; rw [beq_iff_eq.2 (show (nbr ps s.me).length = s.edges.length by omega)]; rfl
  refine awp_count 21 20 s.edges.length (by omega) (fun i t => t.slots 2 = .pt ⟨80, 2, h.cnt 80 2⟩ 0 0 0 ∧ t.slots 3 = .pt ⟨80, 3, h.cnt 80 3⟩ 0 0 0 ∧ t.slots 5 = .l false 1 ((nbr ps s.me).map I) ∧ t.slots 19 = .l false 4 (s.edges.map encE) ∧
    t.hp.con ⟨80, 2, h.cnt 80 2⟩ = .blk [treeV ps] ∧ t.hp.con ⟨80, 3, h.cnt 80 3⟩ = .blk (encS s).cells ∧ Keeps h t.hp ∧ ((nbr ps s.me).zip s.edges).all (edgeB ps.length s.objs.length) = (((nbr ps s.me).zip s.edges).drop i).all (edgeB ps.length s.objs.length)) ?_ ?_ ?_ ?_ ?_
  · simp only [go_sem, I_eq, I_cells, Nat.reduceAdd, Nat.reduceBEq, Nat.reduceEqDiff, Nat.reduceLeDiff, Nat.reduceLT, Nat.reduceSub]
  · simp only [go_sem, I_eq, I_cells, Nat.reduceAdd, Nat.reduceBEq, Nat.reduceEqDiff, Nat.reduceLeDiff, Nat.reduceLT, Nat.reduceSub]
  · simp only [go_sem, I_eq, I_cells, encS_cells, treeV, Nat.reduceAdd, Nat.reduceBEq, Nat.reduceEqDiff, Nat.reduceLeDiff, Nat.reduceLT, Nat.reduceSub]
    ((repeat with_reducible apply Keeps.alloc); first | assumption | exact Keeps.refl _)
  · rintro i t hlt d2 hw g21 g20 ⟨g2, g3, g5, g19, k2, k3, hH, ha⟩
    rw [drop_cons (by omega), List.all_cons] at ha
    simp only [List.getElem_zip, edgeB] at ha
    have ho := hs.out _ (List.getElem_mem hlt)
    have hi : i < (nbr ps s.me).length := by omega
    repeat' first
      | (with_reducible refine CondX.dec (fun c => ?_) (fun c => ?_)) <;> try (exfalso; omega)
      | (with_reducible refine CondX.beq (fun c => ?_) (fun c => ?_)) <;> try (exfalso; omega)
      | (with_reducible refine CondX.bne (fun c => ?_) (fun c => ?_)) <;> try (exfalso; omega)
      | (with_reducible refine CondX.bool (fun c => ?_) (fun c => ?_)) <;> try (exfalso; omega)
      | ((with_reducible refine CallX.id ?_); first | refine CallX.pure (f84_spec s.edges[i]) ?_ | refine CallX.at (ContainsFunc_Msg_at (fun m => !meantB ps.length s.objs.length m) s.edges[i].out _ (by have := goodE_len c; omega) _ (by kernel_rfl) (fun m hm => edges1_spec ps s m _ _ _ (by simp only [go_sem, I_eq, I_cells, k2, Nat.reduceAdd, Nat.reduceBEq, Nat.reduceEqDiff, Nat.reduceLeDiff, Nat.reduceLT, Nat.reduceSub]) (by simp only [go_sem, I_eq, I_cells, k3, Nat.reduceAdd, Nat.reduceBEq, Nat.reduceEqDiff, Nat.reduceLeDiff, Nat.reduceLT, Nat.reduceSub]) (by simp) (by simp) (by omega))) ?_)
      | simp only [go_sem, I_eq, I_cells, d2, hw, g21, g20, g2, g3, g5, g19, k2, k3, encE_cells, encE, Nat.reduceAdd, Nat.reduceBEq, Nat.reduceEqDiff, Nat.reduceLeDiff, Nat.reduceLT, Nat.reduceSub]
      | simp (disch := omega) only [wrap_in, toNat_succ, toNat_pred, Int.toNat_natCast]
      | with_reducible refine And.intro (by omega) ?_
      | with_reducible refine exI (by omega) ?_
      | fail
    · exact ⟨by rw [he, ha, beq_eq_false_iff_ne.2 c]; rfl, by ((repeat with_reducible apply Keeps.alloc); first | assumption | exact Keeps.refl _)⟩
    · have cc : s.edges[i].out.all (meantB ps.length s.objs.length) = false := by rw [← any_not]; simpa using c
      exact ⟨by rw [he, ha, cc, Bool.and_false, Bool.false_and], by ((repeat with_reducible apply Keeps.alloc); first | assumption | exact Keeps.refl _)⟩
    · rename_i c1 c2
      have cc : s.edges[i].out.all (meantB ps.length s.objs.length) = true := by rw [← any_not]; simpa using c
      exact ⟨by ((repeat with_reducible apply Keeps.alloc); first | assumption | exact Keeps.refl _), by rw [ha, cc, beq_iff_eq.2 c1, c2]; rfl⟩
    · rename_i c1
      exact ⟨by rw [he, ha, c, Bool.and_false, Bool.false_and, Bool.false_and], by ((repeat with_reducible apply Keeps.alloc); first | assumption | exact Keeps.refl _)⟩
  · rintro t d2 g21 g20 ⟨g2, g3, g5, g19, k2, k3, hH, ha⟩
    simp only [go_sem, I_eq, I_cells, d2, g21, g20, Nat.reduceAdd, Nat.reduceBEq, Nat.reduceEqDiff, Nat.reduceLeDiff, Nat.reduceLT, Nat.reduceSub]
    rw [List.drop_eq_nil_of_le (by omega)] at ha
    exact ⟨by rw [he, ha]; rfl, hH⟩
def T53 : Nat → List Tg := fun id => if id = 1 then [.plain, .plain, .plain, .plain, .plain, .plain, .pure, .plain, .pure, .plain, .plain, .plain, .plain, .plain, .plain, .pure, .plain, .plain, .plain, .plain, .plain, .pure] else if id = 20 then [.plain, .plain, .plain, .plain, .plain, .plain, .pure, .plain, .plain, .plain, .plain, .plain, .plain, .pure, .plain, .plain, .plain, .plain, .plain, .plain, .pure, .plain, .pure] else []
theorem Good_spec (ps : List Int) (s : Nst) (hlen : ps.length < 2 ^ 29) (hs : Sized s) : PureF Try.prog 53 [treeV ps, encS s] (.bool (goodS ps s)) := by
  refine PureF.of_awp mixed T53 (fn := Try.f53) (by kernel_rfl) rfl (by kernel_rfl) (by show 2 ≤ _; decide) (by simp [AV.lf]) (fun h => ?_)
  obtain ⟨ho, he, hk, hg, hc, hu⟩ := id hs
  have hgs : goodS ps s = (withinB s.me 0 (ps.length - 1) && withinB s.objs.length 1 8 && withinB s.asked 0 1099511627776 && decide (s.asks.length ≤ 4) && decide (s.got.length ≤ 4) &&
    s.objs.all (ownB ps s.me) && asksB s.objs.length s.asked 0 s.asks && s.got.all (foundB ps.length s.objs.length s.asked) && edgesB ps s && decide (openS s.objs ≤ 8)) := rfl
  have hwn : IntKind.i64.wrap ((ps.length : Int) - 1) = (ps.length : Int) - 1 := IntWalk.i64_in _ (by omega)
  have hwk : IntKind.i64.wrap ((s.objs.length : Int) - 1) = (s.objs.length : Int) - 1 := IntWalk.i64_in _ (by omega)
  rw [awp_assoc]
  refine awp_cut (fun t => t.slots 0 = treeV ps ∧ t.slots 3 = .pt ⟨53, 3, h.cnt 53 3⟩ 0 0 0 ∧ t.hp.con ⟨53, 3, h.cnt 53 3⟩ = .blk (encS s).cells ∧ Keeps h t.hp ∧ (withinB s.me 0 (ps.length - 1) && withinB s.objs.length 1 8 && withinB s.asked 0 1099511627776 && decide (s.asks.length ≤ 4) && decide (s.got.length ≤ 4)) = true) ?_ ?_
  · repeat' first
      | (with_reducible refine CondX.dec (fun c => ?_) (fun c => ?_)) <;> try (exfalso; omega)
      | (with_reducible refine CondX.beq (fun c => ?_) (fun c => ?_)) <;> try (exfalso; omega)
      | (with_reducible refine CondX.bne (fun c => ?_) (fun c => ?_)) <;> try (exfalso; omega)
      | (with_reducible refine CondX.bool (fun c => ?_) (fun c => ?_)) <;> try (exfalso; omega)
      | ((with_reducible refine CallX.id ?_); first | refine CallX.pure (Size_spec ps) ?_ | refine CallX.pure (state_within_spec _ _ _) ?_)
      | ((with_reducible refine PureX.id ?_); first | refine PureX.of (Size_spec ps) ?_ | refine PureX.of (state_within_spec _ _ _) ?_)
      | simp only [go_sem, I_eq, I_cells, T53, hwn, encS, encS_cells, treeV, Nat.reduceAdd, Nat.reduceBEq, Nat.reduceEqDiff, Nat.reduceLeDiff, Nat.reduceLT, Nat.reduceSub]
      | simp (disch := omega) only [wrap_in, toNat_succ, toNat_pred, Int.toNat_natCast]
      | with_reducible refine And.intro (by omega) ?_
      | with_reducible refine exI (by omega) ?_
      | fail
    all_goals first
      | exact ⟨by rw [hgs]; simp [*]; try omega, by ((repeat with_reducible apply Keeps.alloc); first | assumption | exact Keeps.refl _)⟩
      | exact ⟨by ((repeat with_reducible apply Keeps.alloc); first | assumption | exact Keeps.refl _), by simp [*]; omega⟩
  rintro t ⟨g0, g3, gB, gH, hh⟩
  have ho8 : s.objs.length ≤ 8 := by simp [withinB] at hh; omega
  rw [hh, Bool.true_and] at hgs
  clear hh
  repeat' first
    | (with_reducible refine CondX.dec (fun c => ?_) (fun c => ?_)) <;> try (exfalso; omega)
    | (with_reducible refine CondX.beq (fun c => ?_) (fun c => ?_)) <;> try (exfalso; omega)
    | (with_reducible refine CondX.bne (fun c => ?_) (fun c => ?_)) <;> try (exfalso; omega)
    | (with_reducible refine CondX.bool (fun c => ?_) (fun c => ?_)) <;> try (exfalso; omega)
    | simp only [go_sem, I_eq, I_cells, T53, g0, g3, gB, encS_cells, Nat.reduceAdd, Nat.reduceBEq, Nat.reduceEqDiff, Nat.reduceLeDiff, Nat.reduceLT, Nat.reduceSub]
    | simp (disch := omega) only [wrap_in, toNat_succ, toNat_pred, Int.toNat_natCast]
    | with_reducible refine And.intro (by omega) ?_
    | with_reducible refine exI (by omega) ?_
    | fail
  refine awp_count 51 50 s.objs.length (by omega) (fun i t => t.slots 0 = treeV ps ∧ t.slots 3 = .pt ⟨53, 3, h.cnt 53 3⟩ 0 0 0 ∧ t.hp.con ⟨53, 3, h.cnt 53 3⟩ = .blk (encS s).cells ∧ Keeps h t.hp ∧ t.slots 49 = .l false 3 (s.objs.map encO) ∧ s.objs.all (ownB ps s.me) = (s.objs.drop i).all (ownB ps s.me)) ?_ ?_ ?_ ?_ ?_
  · simp only [go_sem, I_eq, I_cells, Nat.reduceAdd, Nat.reduceBEq, Nat.reduceEqDiff, Nat.reduceLeDiff, Nat.reduceLT, Nat.reduceSub]
  · simp only [go_sem, I_eq, I_cells, Nat.reduceAdd, Nat.reduceBEq, Nat.reduceEqDiff, Nat.reduceLeDiff, Nat.reduceLT, Nat.reduceSub]
  · simp only [go_sem, I_eq, I_cells, g0, g3, gB, encS_cells, Nat.reduceAdd, Nat.reduceBEq, Nat.reduceEqDiff, Nat.reduceLeDiff, Nat.reduceLT, Nat.reduceSub]
    exact gH
  · clear g0 g3 gB gH
    rintro i t hlt d2 hw g51 g50 ⟨g0, g3, gB, gH, g49, ha⟩
    rw [drop_cons hlt, List.all_cons] at ha
    repeat' first
      | (with_reducible refine CondX.dec (fun c => ?_) (fun c => ?_)) <;> try (exfalso; omega)
      | (with_reducible refine CondX.beq (fun c => ?_) (fun c => ?_)) <;> try (exfalso; omega)
      | (with_reducible refine CondX.bne (fun c => ?_) (fun c => ?_)) <;> try (exfalso; omega)
      | (with_reducible refine CondX.bool (fun c => ?_) (fun c => ?_)) <;> try (exfalso; omega)
      | ((with_reducible refine CallX.id ?_); first | refine CallX.pure (own_spec ps s.me s.objs[i] hlen (hc _ (List.getElem_mem hlt))) ?_)
      | simp only [go_sem, I_eq, I_cells, T53, d2, hw, g51, g50, g49, g0, g3, gB, encS_cells, encO_cells, Nat.reduceAdd, Nat.reduceBEq, Nat.reduceEqDiff, Nat.reduceLeDiff, Nat.reduceLT, Nat.reduceSub]
      | simp (disch := omega) only [wrap_in, toNat_succ, toNat_pred, Int.toNat_natCast]
      | with_reducible refine And.intro (by omega) ?_
      | with_reducible refine exI (by omega) ?_
      | fail
    · exact ⟨by ((repeat with_reducible apply Keeps.alloc); first | assumption | exact Keeps.refl _), by rw [ha, c, Bool.true_and]⟩
    · exact ⟨by rw [hgs, ha, c, Bool.false_and]; rfl, by ((repeat with_reducible apply Keeps.alloc); first | assumption | exact Keeps.refl _)⟩
  clear g0 g3 gB gH
  rintro t d2 g51 g50 ⟨g0, g3, gB, gH, g49, ha⟩
  rw [List.drop_length] at ha
  have hcl : ∀ o ∈ s.objs, o.cells.length ≤ 1099511627777 := by
    intro o hm
    have := List.all_eq_true.1 (ha.trans List.all_nil) o hm
    unfold ownB at this
    simp only [Bool.and_eq_true] at this
    exact goodC_len this.1.1.2
  rw [ha, List.all_nil, Bool.true_and] at hgs
  clear ha
  repeat' first
    | (with_reducible refine CondX.dec (fun c => ?_) (fun c => ?_)) <;> try (exfalso; omega)
    | (with_reducible refine CondX.beq (fun c => ?_) (fun c => ?_)) <;> try (exfalso; omega)
    | (with_reducible refine CondX.bne (fun c => ?_) (fun c => ?_)) <;> try (exfalso; omega)
    | (with_reducible refine CondX.bool (fun c => ?_) (fun c => ?_)) <;> try (exfalso; omega)
    | simp only [go_sem, I_eq, I_cells, T53, d2, g51, g50, g0, g3, gB, encS_cells, Nat.reduceAdd, Nat.reduceBEq, Nat.reduceEqDiff, Nat.reduceLeDiff, Nat.reduceLT, Nat.reduceSub]
    | simp (disch := omega) only [wrap_in, toNat_succ, toNat_pred, Int.toNat_natCast]
    | with_reducible refine And.intro (by omega) ?_
    | with_reducible refine exI (by omega) ?_
    | fail
  refine awp_count 65 64 s.asks.length (by omega) (fun i t => t.slots 0 = treeV ps ∧ t.slots 3 = .pt ⟨53, 3, h.cnt 53 3⟩ 0 0 0 ∧ t.hp.con ⟨53, 3, h.cnt 53 3⟩ = .blk (encS s).cells ∧ Keeps h t.hp ∧ t.slots 63 = .l false 2 (s.asks.map encA) ∧ ∃ last : Int, t.slots 7 = .int .i64 last ∧ asksB s.objs.length s.asked 0 s.asks = asksB s.objs.length s.asked last (s.asks.drop i)) ?_ ?_ ?_ ?_ ?_
  · simp only [go_sem, I_eq, I_cells, Nat.reduceAdd, Nat.reduceBEq, Nat.reduceEqDiff, Nat.reduceLeDiff, Nat.reduceLT, Nat.reduceSub]
  · simp only [go_sem, I_eq, I_cells, Nat.reduceAdd, Nat.reduceBEq, Nat.reduceEqDiff, Nat.reduceLeDiff, Nat.reduceLT, Nat.reduceSub]
  · simp only [go_sem, I_eq, I_cells, g0, g3, gB, encS_cells, Nat.reduceAdd, Nat.reduceBEq, Nat.reduceEqDiff, Nat.reduceLeDiff, Nat.reduceLT, Nat.reduceSub]
    exact ⟨gH, 0, rfl, rfl⟩
  · clear g0 g3 gB gH g51 g50
    rintro i t hlt d2 hw g65 g64 ⟨g0, g3, gB, gH, g63, last, g7, ha⟩
    rw [drop_cons hlt, asksB] at ha
    repeat' first
      | (with_reducible refine CondX.dec (fun c => ?_) (fun c => ?_)) <;> try (exfalso; omega)
      | (with_reducible refine CondX.beq (fun c => ?_) (fun c => ?_)) <;> try (exfalso; omega)
      | (with_reducible refine CondX.bne (fun c => ?_) (fun c => ?_)) <;> try (exfalso; omega)
      | (with_reducible refine CondX.bool (fun c => ?_) (fun c => ?_)) <;> try (exfalso; omega)
      | ((with_reducible refine CallX.id ?_); first | refine CallX.pure (state_within_spec _ _ _) ?_)
      | simp only [go_sem, I_eq, I_cells, T53, hwk, d2, hw, g65, g64, g63, g7, g0, g3, gB, encS_cells, encA_cells, Nat.reduceAdd, Nat.reduceBEq, Nat.reduceEqDiff, Nat.reduceLeDiff, Nat.reduceLT, Nat.reduceSub]
      | simp (disch := omega) only [wrap_in, toNat_succ, toNat_pred, Int.toNat_natCast]
      | with_reducible refine And.intro (by omega) ?_
      | with_reducible refine exI (by omega) ?_
      | fail
    · exact ⟨by rw [hgs, ha]; simp [*], by ((repeat with_reducible apply Keeps.alloc); first | assumption | exact Keeps.refl _)⟩
    · exact ⟨by rw [hgs, ha]; simp [*], by ((repeat with_reducible apply Keeps.alloc); first | assumption | exact Keeps.refl _)⟩
    · exact ⟨by ((repeat with_reducible apply Keeps.alloc); first | assumption | exact Keeps.refl _), _, rfl, by rw [ha]; simp [*]⟩
    · exact ⟨by rw [hgs, ha]; simp [*], by ((repeat with_reducible apply Keeps.alloc); first | assumption | exact Keeps.refl _)⟩
  clear g0 g3 gB gH g51 g50
  rintro t d2 g65 g64 ⟨g0, g3, gB, gH, g63, last, g7, ha⟩
  rw [List.drop_length, asksB] at ha
  rw [ha, Bool.true_and] at hgs
  clear ha
  repeat' first
    | (with_reducible refine CondX.dec (fun c => ?_) (fun c => ?_)) <;> try (exfalso; omega)
    | (with_reducible refine CondX.beq (fun c => ?_) (fun c => ?_)) <;> try (exfalso; omega)
    | (with_reducible refine CondX.bne (fun c => ?_) (fun c => ?_)) <;> try (exfalso; omega)
    | (with_reducible refine CondX.bool (fun c => ?_) (fun c => ?_)) <;> try (exfalso; omega)
    | simp only [go_sem, I_eq, I_cells, T53, d2, g65, g64, g0, g3, gB, encS_cells, Nat.reduceAdd, Nat.reduceBEq, Nat.reduceEqDiff, Nat.reduceLeDiff, Nat.reduceLT, Nat.reduceSub]
    | simp (disch := omega) only [wrap_in, toNat_succ, toNat_pred, Int.toNat_natCast]
    | with_reducible refine And.intro (by omega) ?_
    | with_reducible refine exI (by omega) ?_
    | fail
  refine awp_count 96 95 s.got.length (by omega) (fun i t => t.slots 0 = treeV ps ∧ t.slots 3 = .pt ⟨53, 3, h.cnt 53 3⟩ 0 0 0 ∧ t.hp.con ⟨53, 3, h.cnt 53 3⟩ = .blk (encS s).cells ∧ Keeps h t.hp ∧ t.slots 94 = .l false 3 (s.got.map encF) ∧ s.got.all (foundB ps.length s.objs.length s.asked) = (s.got.drop i).all (foundB ps.length s.objs.length s.asked)) ?_ ?_ ?_ ?_ ?_
  · simp only [go_sem, I_eq, I_cells, Nat.reduceAdd, Nat.reduceBEq, Nat.reduceEqDiff, Nat.reduceLeDiff, Nat.reduceLT, Nat.reduceSub]
  · simp only [go_sem, I_eq, I_cells, Nat.reduceAdd, Nat.reduceBEq, Nat.reduceEqDiff, Nat.reduceLeDiff, Nat.reduceLT, Nat.reduceSub]
  · simp only [go_sem, I_eq, I_cells, g0, g3, gB, encS_cells, Nat.reduceAdd, Nat.reduceBEq, Nat.reduceEqDiff, Nat.reduceLeDiff, Nat.reduceLT, Nat.reduceSub]
    exact gH
  · clear g0 g3 gB gH g65 g64
    rintro i t hlt d2 hw g96 g95 ⟨g0, g3, gB, gH, g94, ha⟩
    rw [drop_cons hlt, List.all_cons, foundB] at ha
    repeat' first
      | (with_reducible refine CondX.dec (fun c => ?_) (fun c => ?_)) <;> try (exfalso; omega)
      | (with_reducible refine CondX.beq (fun c => ?_) (fun c => ?_)) <;> try (exfalso; omega)
      | (with_reducible refine CondX.bne (fun c => ?_) (fun c => ?_)) <;> try (exfalso; omega)
      | (with_reducible refine CondX.bool (fun c => ?_) (fun c => ?_)) <;> try (exfalso; omega)
      | ((with_reducible refine CallX.id ?_); first | refine CallX.pure (state_within_spec _ _ _) ?_ | refine CallX.pure (Size_spec ps) ?_)
      | ((with_reducible refine PureX.id ?_); first | refine PureX.of (state_within_spec _ _ _) ?_ | refine PureX.of (Size_spec ps) ?_)
      | simp only [go_sem, I_eq, I_cells, T53, hwk, hwn, d2, hw, g96, g95, g94, g0, g3, gB, encS_cells, encF_cells, Nat.reduceAdd, Nat.reduceBEq, Nat.reduceEqDiff, Nat.reduceLeDiff, Nat.reduceLT, Nat.reduceSub]
      | simp (disch := omega) only [wrap_in, toNat_succ, toNat_pred, Int.toNat_natCast]
      | with_reducible refine And.intro (by omega) ?_
      | with_reducible refine exI (by omega) ?_
      | fail
    all_goals first
      | exact ⟨by rw [hgs, ha]; simp [*], by ((repeat with_reducible apply Keeps.alloc); first | assumption | exact Keeps.refl _)⟩
      | exact ⟨by ((repeat with_reducible apply Keeps.alloc); first | assumption | exact Keeps.refl _), by rw [ha]; simp [*]⟩
  clear g0 g3 gB gH g65 g64
  rintro t d2 g96 g95 ⟨g0, g3, gB, gH, g94, ha⟩
  rw [List.drop_length] at ha
  rw [ha, List.all_nil, Bool.true_and] at hgs
  repeat' first
    | (with_reducible refine CondX.dec (fun c => ?_) (fun c => ?_)) <;> try (exfalso; omega)
    | (with_reducible refine CondX.beq (fun c => ?_) (fun c => ?_)) <;> try (exfalso; omega)
    | (with_reducible refine CondX.bne (fun c => ?_) (fun c => ?_)) <;> try (exfalso; omega)
    | (with_reducible refine CondX.bool (fun c => ?_) (fun c => ?_)) <;> try (exfalso; omega)
    | ((with_reducible refine CallX.id ?_); first | refine CallX.pure (edges_spec ps s hlen hs) ?_ | refine CallX.pure (Open_spec s ho8 hcl) ?_)
    | simp only [go_sem, I_eq, I_cells, T53, d2, g96, g95, g0, g3, gB, encS_cells, Nat.reduceAdd, Nat.reduceBEq, Nat.reduceEqDiff, Nat.reduceLeDiff, Nat.reduceLT, Nat.reduceSub]
    | simp (disch := omega) only [wrap_in, toNat_succ, toNat_pred, Int.toNat_natCast]
    | with_reducible refine And.intro (by omega) ?_
    | with_reducible refine exI (by omega) ?_
    | fail
  · refine ⟨?_, gH⟩
    rw [hgs, c, Bool.true_and]
    congr 1; rw [Bool.eq_iff_iff]; simp; omega
  · exact ⟨by rw [hgs, c]; rfl, gH⟩
end Go.Proofs.Ytmajndgdfmnchaa
