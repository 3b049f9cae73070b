/- Plain laws: the reference's checks say the same. -/
import Derived.Test.YtmajndgdfmnchaaZTU
namespace Go.Gh
set_option linter.unusedSimpArgs false
theorem TreeOk.cyc {ps : List Int} (h : TreeOk ps) {u v : Nat} (hu : u < ps.length) (hv : v < ps.length) : ¬ (ps[u] = v ∧ ps[v] = u) := by
  rintro ⟨h1, h2⟩
  have key : ∀ k, Gh.climb ps k u = false ∧ Gh.climb ps k v = false := by
    intro k
    induction k with
    | zero => exact ⟨rfl, rfl⟩
    | succ k ih =>
      constructor
      · rw [Gh.climb]; simp only [Int.toNat_natCast, idx_at hu, h1]; rw [if_neg (by omega)]; exact ih.2
      · rw [Gh.climb]; simp only [Int.toNat_natCast, idx_at hv, h2]; rw [if_neg (by omega)]; exact ih.1
  have := h.climb u hu
  rw [(key _).1] at this
  cases this
theorem mem_nearL {ps : List Int} {v : Nat} : ∀ {i : Nat} {x : Int}, x ∈ nearL ps v i ↔ (v < i ∧ 0 ≤ ps.getD v 0 ∧ x = ps.getD v 0) ∨ ∃ u, u < i ∧ u ≠ v ∧ ps.getD u 0 = v ∧ x = (u : Int) := by
  intro i
  induction i with
  | zero => intro x; simp [nearL]
  | succ i ih =>
    intro x
    unfold nearL
    by_cases h0 : 0 ≤ ps.getD i 0
    · rw [if_pos h0]
      by_cases h1 : i = v
      · subst h1
        rw [if_pos rfl, List.mem_append, ih, List.mem_singleton]
        constructor
        · rintro ((h | ⟨u, h2, h3⟩) | h)
          · omega
          · exact .inr ⟨u, by omega, h3⟩
          · exact .inl ⟨by omega, h0, h⟩
        · rintro (⟨_, _, h⟩ | ⟨u, h2, h3, h4⟩)
          · exact .inr h
          · exact .inl (.inr ⟨u, by omega, h3, h4⟩)
      · rw [if_neg h1]
        by_cases h2 : ps.getD i 0 = v
        · rw [if_pos h2, List.mem_append, ih, List.mem_singleton]
          constructor
          · rintro ((h | ⟨u, h3, h4⟩) | h)
            · exact .inl ⟨by omega, h.2⟩
            · exact .inr ⟨u, by omega, h4⟩
            · exact .inr ⟨i, by omega, h1, h2, h⟩
          · rintro (⟨h3, h4⟩ | ⟨u, h3, h4, h5, h6⟩)
            · exact .inl (.inl ⟨by omega, h4⟩)
            · by_cases hu : u = i
              · subst hu; exact .inr h6
              · exact .inl (.inr ⟨u, by omega, h4, h5, h6⟩)
        · rw [if_neg h2, ih]
          constructor
          · rintro (h | ⟨u, h3, h4⟩)
            · exact .inl ⟨by omega, h.2⟩
            · exact .inr ⟨u, by omega, h4⟩
          · rintro (⟨h3, h4⟩ | ⟨u, h3, h4, h5, h6⟩)
            · exact .inl ⟨by omega, h4⟩
            · exact .inr ⟨u, by rcases Nat.lt_succ_iff_lt_or_eq.1 h3 with h7 | rfl; exact h7; exact absurd h5 h2, h4, h5, h6⟩
    · rw [if_neg h0, ih]
      constructor
      · rintro (h | ⟨u, h3, h4⟩)
        · exact .inl ⟨by omega, h.2⟩
        · exact .inr ⟨u, by omega, h4⟩
      · rintro (⟨h3, h4⟩ | ⟨u, h3, h4, h5, h6⟩)
        · exact .inl ⟨by rcases Nat.lt_succ_iff_lt_or_eq.1 h3 with h7 | rfl; exact h7; exact absurd h4.1 h0, h4⟩
        · exact .inr ⟨u, by rcases Nat.lt_succ_iff_lt_or_eq.1 h3 with h7 | rfl; exact h7; omega, h4, h5, h6⟩
theorem nodup_nearL {ps : List Int} (h : TreeOk ps) {v : Nat} (hv : v < ps.length) : ∀ {i : Nat}, i ≤ ps.length → (nearL ps v i).Nodup := by
  intro i
  induction i with
  | zero => intro _; simp [nearL]
  | succ i ih =>
    intro hi
    have ih' := ih (by omega)
    unfold nearL
    split
    · split
      · rename_i h0 h1
        subst h1
        refine List.nodup_append.2 ⟨ih', by simp, ?_⟩
        rintro a ha b hb rfl
        rw [List.mem_singleton] at hb
        rcases mem_nearL.1 ha with h2 | ⟨u, h2, h3, h4, h5⟩
        · omega
        · rw [idx_at hv] at hb
          rw [idx_at (by omega)] at h4
          exact h.cyc (u := u) (v := i) (by omega) hv ⟨h4, by omega⟩
      · split
        · rename_i h0 h1 h2
          refine List.nodup_append.2 ⟨ih', by simp, ?_⟩
          rintro a ha b hb rfl
          rw [List.mem_singleton] at hb
          rcases mem_nearL.1 ha with ⟨h3, h4, h5⟩ | ⟨u, h3, h4, h5, h6⟩
          · rw [idx_at hv] at h5
            rw [idx_at (by omega)] at h2
            exact h.cyc (u := i) (v := v) (by omega) hv ⟨h2, by omega⟩
          · omega
        · exact ih'
    · exact ih'
theorem mem_refN {ps : List Int} {v : Int} {n : Nat} {x : Int} : x ∈ refN ps v n ↔ ∃ u : Nat, u < n ∧ nearB ps u v = true ∧ x = u := by
  unfold refN
  simp only [List.mem_map, List.mem_filter, List.mem_range]
  constructor
  · rintro ⟨u, ⟨h1, h2⟩, rfl⟩; exact ⟨u, h1, h2, rfl⟩
  · rintro ⟨u, h1, h2, rfl⟩; exact ⟨u, ⟨h1, h2⟩, rfl⟩
theorem lt_refN (ps : List Int) (v : Int) (n : Nat) : (refN ps v n).Pairwise (· < ·) := by
  unfold refN
  rw [List.pairwise_map]
  have h1 : ((List.range n).filter fun u : Nat => nearB ps u v).Pairwise (· < ·) := List.Pairwise.filter _ List.pairwise_lt_range
  exact h1.imp (fun h => by omega)
theorem near_perm {ps : List Int} (h : TreeOk ps) {v : Nat} (hv : v < ps.length) : (nearL ps v ps.length).Perm (refN ps v ps.length) := by
  rw [List.perm_ext_iff_of_nodup (nodup_nearL h hv (Nat.le_refl _)) ((lt_refN ps v ps.length).imp (fun h => by omega))]
  intro x
  rw [mem_nearL, mem_refN]
  have hin := h.in hv
  constructor
  · rintro (⟨h1, h2, rfl⟩ | ⟨u, h1, h2, h3, rfl⟩)
    · rw [idx_at hv] at h2 ⊢
      refine ⟨ps[v].toNat, by omega, ?_, by omega⟩
      unfold nearB
      rw [Int.toNat_natCast v, idx_at hv]
      simp; omega
    · refine ⟨u, h1, ?_, rfl⟩
      unfold nearB
      rw [Int.toNat_natCast, h3]; simp
  · rintro ⟨u, h1, h2, rfl⟩
    unfold nearB at h2
    simp only [Int.toNat_natCast, Bool.or_eq_true, beq_iff_eq] at h2
    rcases h2 with h2 | h2
    · refine .inr ⟨u, h1, ?_, h2, rfl⟩
      rintro rfl
      rw [idx_at hv] at h2
      exact hin.2.2 h2
    · exact .inl ⟨hv, by omega, h2.symm⟩
theorem nbr_eq {ps : List Int} (h : TreeOk ps) (v : Int) : nbr ps v = refNbr ps v := by
  unfold nbr refNbr
  split
  · rename_i hv
    simp only [hasN, decide_eq_true_eq] at hv
    obtain ⟨w, rfl⟩ : ∃ w : Nat, v = w := ⟨v.toNat, by omega⟩
    rw [Int.toNat_natCast]
    have hp := near_perm h (v := w) (by omega)
    unfold sortI
    refine List.Perm.eq_of_pairwise (le := fun a b : Int => a ≤ b) (fun a b _ _ h1 h2 => by omega) ?_ ?_ ((List.mergeSort_perm _ _).trans hp)
    · have := List.pairwise_mergeSort (le := fun x y : Int => decide (x ≤ y)) (fun a b c h1 h2 => by simp at *; omega) (fun a b => by simp; omega) (nearL ps w ps.length)
      exact this.imp (fun h => by simpa using h)
    · exact (lt_refN ps w ps.length).imp (fun h => by omega)
  · rfl
theorem goodC_inc {cs : List Cel} {me : Int} {sink : Bool} (h : goodC cs me sink = true) {i : Nat} (hi : i + 1 < cs.length) : cs[i].num < cs[i + 1].num := by
  unfold goodC at h
  simp only [Bool.and_eq_true, List.all_eq_true, List.mem_range] at h
  have h1 := h.2 (i + 1) hi
  simp only [cellAt, List.getElem?_eq_getElem hi] at h1
  have h2 := Go.Proofs.Ytmajndgdfmnchaa.cellOk_iff.1 h1
  unfold Go.Proofs.Ytmajndgdfmnchaa.CellP at h2
  rw [Nat.add_sub_cancel, Go.Proofs.Ytmajndgdfmnchaa.cell_nx (show i < cs.length by omega)] at h2
  omega
theorem goodC_last {cs : List Cel} {me : Int} {sink : Bool} (h : goodC cs me sink = true) {i j : Nat} (hij : i ≤ j) (hj : j < cs.length) : cs[i].num ≤ cs[j].num := by
  induction j with
  | zero => have : i = 0 := by omega
            subst this; omega
  | succ j ih =>
    by_cases he : i = j + 1
    · subst he; omega
    · have := ih (by omega) (by omega)
      have := goodC_inc h hj
      omega
theorem own_eq {ps : List Int} (h : TreeOk ps) (me : Int) (o : Own) : ownB ps me o = ownR ps.length (refNbr ps me) me o := by
  unfold ownB ownR
  rw [nbr_eq h]
  rw [Bool.eq_iff_iff]
  simp only [Bool.and_eq_true, withinB, decide_eq_true_eq, List.all_eq_true, and_assoc]
  refine and_congr Iff.rfl (and_congr Iff.rfl (and_congr Iff.rfl (and_congr_right fun hg => ?_)))
  constructor
  · rintro ⟨h1, h2⟩ c hc
    refine ⟨?_, h1 c hc⟩
    obtain ⟨i, hi, rfl⟩ := List.getElem_of_mem hc
    have hl := goodC_last hg (show i ≤ o.cells.length - 1 by omega) (by omega)
    unfold lastOk at h2
    rw [List.getLast?_eq_getElem?, List.getElem?_eq_getElem (show o.cells.length - 1 < o.cells.length by omega)] at h2
    simp at h2
    omega
  · intro h1
    refine ⟨fun c hc => (h1 c hc).2, ?_⟩
    unfold lastOk
    split
    · rfl
    · rename_i c hc
      have := (h1 c (List.mem_of_getLast? hc)).1
      simpa using this
theorem asks_eq (k asked : Int) : ∀ (l : List Ask) (q : Int), 0 ≤ q → asksB k asked q l = asksR k asked (some q) l := by
  intro l
  induction l with
  | nil => intro q _; unfold asksB asksR; rfl
  | cons a r ih =>
    intro q hq
    rw [asksR_cons]
    unfold asksB
    by_cases h1 : a.num ≤ q
    · simp [h1]
      intro _ _ _ h2
      omega
    · rw [ih a.num (by omega), Bool.eq_iff_iff]
      simp only [withinB, Bool.and_eq_true, decide_eq_true_eq, Bool.not_eq_true', decide_eq_false_iff_not]
      constructor
      · rintro ⟨⟨⟨h2, h3⟩, h4⟩, h5⟩; exact ⟨⟨⟨⟨h2.1, by omega⟩, by omega⟩, by omega⟩, h5⟩
      · rintro ⟨⟨⟨h2, h3⟩, h4⟩, h5⟩; exact ⟨⟨⟨by omega, h1⟩, by omega⟩, h5⟩
theorem asks_none (k asked : Int) (l : List Ask) : asksR k asked none l = asksR k asked (some 0) l := by
  cases l with
  | nil => unfold asksR; rfl
  | cons a r =>
    rw [asksR_cons, asksR_cons, Bool.eq_iff_iff]
    simp only [Bool.and_eq_true, decide_eq_true_eq, and_true]
    constructor
    · rintro ⟨⟨h1, h2⟩, h3⟩; exact ⟨⟨⟨h1, h2⟩, by omega⟩, h3⟩
    · rintro ⟨⟨⟨h1, h2⟩, _⟩, h3⟩; exact ⟨⟨h1, h2⟩, h3⟩
theorem found_eq (n k asked : Int) : foundB n k asked = foundR n k asked := by
  funext f
  unfold foundB foundR withinB
  rw [Bool.eq_iff_iff]
  simp only [Bool.and_eq_true, decide_eq_true_eq]
  omega
theorem good_eq {ps : List Int} (h : TreeOk ps) (s : Nst) : goodS ps s = goodR ps s := by
  have ho : ownB ps s.me = ownR ps.length (refNbr ps s.me) s.me := funext fun o => own_eq h s.me o
  unfold goodS goodR
  rw [ho, found_eq, asks_eq _ _ _ 0 (by omega), asks_none, edgesB, nbr_eq h, Bool.eq_iff_iff]
  simp only [Bool.and_eq_true, withinB, decide_eq_true_eq, beq_iff_eq]
  constructor
  · rintro ⟨⟨⟨⟨⟨⟨⟨⟨⟨h1, h2⟩, h3⟩, h4⟩, h5⟩, h6⟩, h7⟩, h8⟩, h9, h10⟩, h11⟩
    exact ⟨⟨⟨⟨⟨⟨⟨⟨by omega, by omega⟩, h6⟩, h9.symm⟩, h10⟩, ⟨h3, h4⟩, h5⟩, h7⟩, h8⟩, h11⟩
  · rintro ⟨⟨⟨⟨⟨⟨⟨⟨h1, h2⟩, h6⟩, h9⟩, h10⟩, ⟨h3, h4⟩, h5⟩, h7⟩, h8⟩, h11⟩
    exact ⟨⟨⟨⟨⟨⟨⟨⟨⟨by omega, by omega⟩, h3⟩, h4⟩, h5⟩, h6⟩, h7⟩, h8⟩, h9.symm, h10⟩, h11⟩
theorem fit_eq {ps : List Int} (h : TreeOk ps) (ss : List Nst) : fitB ps ss = fitR ps ss := by
  have : fitAt ps (objN ss) = fitAtR ps (objN ss) := funext fun i => funext fun s => by unfold fitAt fitAtR; rw [good_eq h]
  unfold fitB fitR; rw [this]
end Go.Gh
