/- Plain laws: states that fit can be compared. -/
import Derived.Test.YtmajndgdfmnchaaZTV
namespace Go.Gh
set_option linter.unusedSimpArgs false
/-- At most the last cell has no successor. -/
def BareOk (cs : List Cel) : Prop := ∀ j (hj : j < cs.length), cs[j].node ≥ -1 ∧ (j + 1 < cs.length → cs[j].node ≥ 0)
theorem BareOk.tail {c : Cel} {r : List Cel} (h : BareOk (c :: r)) : BareOk r := fun j hj => by have := h (j + 1) (by simpa using hj); simpa using this
theorem ledC_len (at_ : Int × Int) (psh : Option (Int × Int)) (now : List Cel) (v : Int) : ∀ cs : List Cel, BareOk cs → (ledC at_ psh now v cs).length ≤ 1 := by
  intro cs
  induction cs with
  | nil => intro _; simp [ledC]
  | cons c r ih =>
    intro hb
    have h0 := hb 0 (by simp)
    simp only [List.getElem_cons_zero, List.length_cons] at h0
    rw [ledC_cons]
    by_cases hc : c.node ≥ 0
    · rw [if_pos hc]; exact ih hb.tail
    · have hr : r = [] := List.length_eq_zero_iff.1 (by omega)
      subst hr
      rw [if_neg hc]
      have hl : ledC at_ psh now v [] = [] := by rw [ledC.eq_def]
      cases now.find? (fun x => x.num == c.num) with
      | some x => simp only [hl]; split <;> simp
      | none =>
        simp only [hl]
        split
        · simp
        · cases psh with
          | none => simp
          | some p => simp only; split <;> simp
theorem ledL_len (k : Int) (at_ : Int × Int) : ∀ (us ws : List Nst) (v : Nat), (∀ s ∈ us, BareOk (cellsOf k s)) → (ledL k at_ v us ws).length ≤ us.length := by
  intro us
  induction us with
  | nil => intro ws v _; rw [ledL.eq_def]; simp
  | cons b r ih =>
    intro ws v hb
    cases ws with
    | nil => rw [ledL.eq_def]; simp
    | cons a r2 =>
      rw [ledL, List.length_append, List.length_cons]
      have h1 := ledC_len at_ (pushL k b.edges a.edges) (cellsOf k a) v (cellsOf k b) (hb b (by simp))
      have h2 := ih r2 (v + 1) (fun s hs => hb s (by simp [hs]))
      omega
theorem askL_len (k : Nat) : ∀ (us ws : List Nst) (v : Nat), (askL k v us ws).length ≤ us.length := by
  intro us
  induction us with
  | nil => intro ws v; rw [askL.eq_def]; simp
  | cons b r ih =>
    intro ws v
    cases ws with
    | nil => rw [askL.eq_def]; simp
    | cons a r2 =>
      rw [askL, List.length_append, List.length_cons]
      have h2 := ih r2 (v + 1)
      split <;> simp <;> omega
theorem freeN_len (k v : Nat) (b a : Nst) : (freeN k v b a).length ≤ 1 := by
  unfold freeN
  split
  · split
    · split
      · split <;> simp
      · simp
    · simp
  · simp
theorem freeL_len (k : Nat) : ∀ (us ws : List Nst) (v : Nat), (freeL k v us ws).length ≤ us.length := by
  intro us
  induction us with
  | nil => intro ws v; rw [freeL.eq_def]; simp
  | cons b r ih =>
    intro ws v
    cases ws with
    | nil => rw [freeL.eq_def]; simp
    | cons a r2 =>
      rw [freeL, List.length_append, List.length_cons]
      have h1 := freeN_len k v b a
      have h2 := ih r2 (v + 1)
      omega
theorem gotN_len (k : Nat) (w g : Int × Int) : (gotN k w g).length ≤ 1 := by unfold gotN; split <;> simp
theorem diffK_len (us ws : List Nst) (k : Nat) (hb : ∀ s ∈ us, BareOk (cellsOf k s)) : (diffK us ws k).length ≤ 3 * us.length + 1 := by
  unfold diffK
  simp only [List.length_append, List.length_map]
  have h1 := askL_len k us ws 0
  have h2 := ledL_len k (holder ws k) us ws 0 hb
  have h3 := freeL_len k us ws 0
  have h4 := gotN_len k (holder us k) (holder ws k)
  omega
theorem diffG_len (us ws : List Nst) (n : Nat) : ∀ (m k : Nat), k + m ≤ n → (∀ j, j < n → ∀ s ∈ us, BareOk (cellsOf j s)) → (diffG us ws k m).length ≤ m * (3 * us.length + 1) := by
  intro m
  induction m with
  | zero => intro k _ _; simp [diffG]
  | succ m ih =>
    intro k hk hb
    rw [diffG, List.length_append, Nat.succ_mul]
    have h1 := diffK_len us ws k (hb k (by omega))
    have h2 := ih (k + 1) (by omega) hb
    omega
/-- What a state that can be is like. -/
structure Fine (ps : List Int) (s : Nst) : Prop where
  k1 : 1 ≤ s.objs.length
  k8 : s.objs.length ≤ 8
  edges : s.edges.length = (nbr ps s.me).length
  sid : ∀ e ∈ s.edges, SidB e
  cells : ∀ o ∈ s.objs, o.cells.length ≤ 1099511627777
  bare : ∀ o ∈ s.objs, BareOk o.cells
theorem Fine.of {ps : List Int} {s : Nst} (h : goodS ps s = true) : Fine ps s := by
  unfold goodS at h
  simp only [Bool.and_eq_true, withinB, decide_eq_true_eq] at h
  obtain ⟨⟨⟨⟨⟨⟨⟨⟨⟨h1, h2⟩, h3⟩, h4⟩, h5⟩, h6⟩, h7⟩, h8⟩, h9⟩, h10⟩ := h
  have hgc : ∀ o ∈ s.objs, goodC o.cells s.me (o.arrow == s.me) = true := by
    intro o ho
    have := List.all_eq_true.1 h6 o ho
    unfold ownB at this
    simp only [Bool.and_eq_true] at this
    exact this.1.1.2
  unfold edgesB at h9
  simp only [Bool.and_eq_true, beq_iff_eq] at h9
  refine ⟨by omega, by omega, h9.1.symm, ?_, fun o ho => Go.Proofs.Ytmajndgdfmnchaa.goodC_len (hgc o ho), ?_⟩
  · intro e he
    obtain ⟨i, hi, rfl⟩ := List.getElem_of_mem he
    have h11 := List.all_eq_true.1 h9.2 ((nbr ps s.me)[i], s.edges[i]) (by
      have hz : i < ((nbr ps s.me).zip s.edges).length := by simp; omega
      have := List.getElem_mem hz
      rwa [List.getElem_zip] at this)
    unfold edgeB at h11
    simp only [Bool.and_eq_true] at h11
    have h12 := h11.1.2
    unfold goodE at h12
    simp only [Bool.and_eq_true, withinB, decide_eq_true_eq] at h12
    exact ⟨by omega, by omega⟩
  · intro o ho j hj
    have hg := hgc o ho
    unfold goodC at hg
    simp only [Bool.and_eq_true, List.all_eq_true, List.mem_range] at hg
    have h11 := hg.2 j hj
    simp only [cellAt, List.getElem?_eq_getElem hj] at h11
    have h12 := Go.Proofs.Ytmajndgdfmnchaa.cellOk_iff.1 h11
    unfold Go.Proofs.Ytmajndgdfmnchaa.CellP at h12
    obtain ⟨_, _, _, _, _, h13, h14⟩ := h12
    by_cases hs : (o.arrow == s.me) = true ∧ j + 1 = o.cells.length
    · have := h13 hs; omega
    · have := h14 hs; omega
theorem fit_at {ps : List Int} {ss : List Nst} (h : fitB ps ss = true) : ss.length = ps.length ∧ ∀ i (hi : i < ss.length), ss[i].me = i ∧ goodS ps ss[i] = true ∧ ss[i].objs.length = objN ss := by
  unfold fitB at h
  simp only [Bool.and_eq_true, beq_iff_eq] at h
  refine ⟨h.1, fun i hi => ?_⟩
  have := allI_iff.1 h.2 i hi
  unfold fitAt at this
  simp only [Bool.and_eq_true, beq_iff_eq, Nat.zero_add] at this
  exact ⟨this.1.1, this.1.2, this.2⟩
theorem Two.of {ps : List Int} {us ws : List Nst} (hok : TreeOk ps) (f1 : fitB ps us = true) (f2 : fitB ps ws = true) (ho : objN us = objN ws) : Two us ws := by
  obtain ⟨l1, h1⟩ := fit_at f1
  obtain ⟨l2, h2⟩ := fit_at f2
  have hl := hok.len
  have g1 := fun i hi => Fine.of (h1 i hi).2.1
  have g2 := fun i hi => Fine.of (h2 i hi).2.1
  have hK : objN us ≤ 8 := by rw [← (h1 0 (by omega)).2.2]; exact (g1 0 (by omega)).k8
  have nl : ∀ v, (nbr ps v).length ≤ 32 := fun v => by have := nbr_len ps v; omega
  have hb : ∀ j, j < objN us → ∀ s ∈ us, BareOk (cellsOf j s) := by
    intro j hj s hs
    obtain ⟨i, hi, rfl⟩ := List.getElem_of_mem hs
    have e1 := (h1 i hi).2.2
    have : (j : Int).toNat < us[i].objs.length := by simp; omega
    rw [cellsOf_at this]
    exact (g1 i hi).bare _ (List.getElem_mem _)
  refine ⟨by omega, by omega, by omega, hK, ho.symm, ?_, ?_, ?_⟩
  · intro k hk i i1 i2
    have e1 := (h1 i i1).2.2
    have e2 := (h2 i i2).2.2
    have a1 := (g1 i i1).edges
    have a2 := (g2 i i2).edges
    rw [(h1 i i1).1] at a1
    rw [(h2 i i2).1] at a2
    have := nl i
    exact ⟨by simp; omega, by simp; omega, (g1 i i1).sid, (g2 i i2).sid, by omega, by omega, fun o ho => by have := (g1 i i1).cells o ho; omega, fun o ho => by have := (g2 i i2).cells o ho; omega⟩
  · have h3 := diffG_len us ws (objN us) (objN us) 0 (by omega) hb
    unfold diffT
    have h4 : objN us * (3 * us.length + 1) ≤ 8 * 97 := Nat.mul_le_mul hK (by omega)
    omega
  · intro k hk i i1 i2 j hj
    exact (g1 i i1).bare _ (List.getElem_mem i2) j hj
end Go.Gh
