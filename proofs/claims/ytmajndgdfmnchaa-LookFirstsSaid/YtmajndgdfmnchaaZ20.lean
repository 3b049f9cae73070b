/- Part of a proof: what functions of the given program compute, and plain laws of it. -/
import Derived.Test.YtmajndgdfmnchaaZ18
import Derived.Test.YtmajndgdfmnchaaZ19
/- Plain: the way in a tree; the states in which all nodes begin. -/
namespace Go.Gh
open Go.Proofs.Ytmajndgdfmnchaa
set_option linter.unusedSimpArgs false
/-- How far a node is below the root's upper end. -/
inductive Dep (ps : List Int) : Int → Nat → Prop
  | root : Dep ps (-1) 0
  | step (a : Nat) (d : Nat) : a < ps.length → Dep ps (ps.getD a 0) d → Dep ps (a : Int) (d + 1)
theorem Dep.uniq {ps : List Int} {a : Int} {d : Nat} (h : Dep ps a d) : ∀ {e : Nat}, Dep ps a e → d = e := by
  induction h with
  | root =>
    intro e h'
    generalize hx : (-1 : Int) = x at h'
    cases h' with
    | root => rfl
    | step a d _ _ => omega
  | step a d ha _ ih =>
    intro e h'
    generalize hx : (a : Int) = x at h'
    cases h' with
    | root => omega
    | step b d' hb h1 =>
      have : a = b := by omega
      subst this
      rw [ih h1]
theorem dep_of {ps : List Int} (hok : TreeOk ps) : ∀ (k : Nat) (u : Nat), u < ps.length → climb ps k u = true → ∃ d, d ≤ k ∧ Dep ps u d := by
  intro k
  induction k with
  | zero => intro u _ h; cases h
  | succ k ih =>
    intro u hu h
    rw [climb] at h
    simp only [Int.toNat_natCast] at h
    have hin := hok.in hu
    have hi := idx_at hu
    by_cases h1 : ps.getD u 0 = -1
    · exact ⟨1, by omega, .step u 0 hu (by rw [h1]; exact .root)⟩
    · rw [if_neg h1] at h
      obtain ⟨w, hw⟩ : ∃ w : Nat, ps.getD u 0 = w := ⟨(ps.getD u 0).toNat, by omega⟩
      rw [hw] at h
      obtain ⟨d, h2, h3⟩ := ih w (by omega) h
      exact ⟨d + 1, by omega, .step u d hu (by rw [hw]; exact h3)⟩
theorem dep_ex {ps : List Int} (hok : TreeOk ps) {u : Nat} (hu : u < ps.length) : ∃ d, d ≤ ps.length ∧ Dep ps u d := dep_of hok _ u hu (hok.climb u hu)
/-- x lies on the way up from a. -/
inductive Chn (ps : List Int) : Int → Nat → Prop
  | refl (a : Nat) : Chn ps a a
  | step (a x : Nat) : Chn ps (ps.getD a 0) x → Chn ps a x
theorem Chn.nonneg {ps : List Int} {a : Int} {x : Nat} (h : Chn ps a x) : 0 ≤ a := by
  cases h <;> omega
theorem Chn.trans {ps : List Int} {a : Int} {x : Nat} (h : Chn ps a x) : ∀ {y : Nat}, Chn ps x y → Chn ps a y := by
  induction h with
  | refl a => exact fun h => h
  | step a x _ ih => exact fun h => .step a _ (ih h)
theorem Chn.dep {ps : List Int} {a : Int} {x : Nat} (h : Chn ps a x) : ∀ {d : Nat}, Dep ps a d → ∃ e, Dep ps x e ∧ e ≤ d ∧ (e = d → (x : Int) = a) := by
  induction h with
  | refl a => exact fun {d} hd => ⟨d, hd, Nat.le_refl _, fun _ => rfl⟩
  | step a x _ ih =>
    intro d hd
    generalize hx : (a : Int) = y at hd
    cases hd with
    | root => omega
    | step b d' hb h1 =>
      have : a = b := by omega
      subst this
      obtain ⟨e, h2, h3, h4⟩ := ih h1
      exact ⟨e, h2, by omega, fun h => by omega⟩
theorem Chn.same {ps : List Int} {a : Int} {x : Nat} (h : Chn ps a x) : ∀ {d : Nat} {y : Nat} {e : Nat}, Dep ps a d → Chn ps a y → Dep ps x e → Dep ps y e → x = y := by
  induction h with
  | refl a =>
    intro d y e hd hy he hf
    obtain ⟨e', h1, h2, h3⟩ := hy.dep he
    have := h3 (h1.uniq hf)
    omega
  | step a x hc ih =>
    intro d y e hd hy he hf
    have hd0 := hd
    generalize hx : (a : Int) = b at hy hd
    cases hy with
    | refl =>
      have hab : a = y := by omega
      subst hab
      obtain ⟨e', h1, h2, h3⟩ := (Chn.step a x hc).dep hd0
      have := h3 ((h1.uniq he).trans (hf.uniq hd0))
      omega
    | step b y hy =>
      have hab : a = b := by omega
      subst hab
      generalize hz : (a : Int) = c at hd
      cases hd with
      | root => omega
      | step c d' _ h1 =>
        have hac : a = c := by omega
        subst hac
        exact ih h1 hy he hf
theorem Chn.child {ps : List Int} {a : Int} {x : Nat} (h : Chn ps a x) : (x : Int) ≠ a → ∃ y : Nat, Chn ps a y ∧ ps.getD y 0 = x := by
  induction h with
  | refl a => exact fun h => absurd rfl h
  | step a x hc ih =>
    intro _
    by_cases h : (x : Int) = ps.getD a 0
    · exact ⟨a, .refl a, h.symm⟩
    · obtain ⟨y, h1, h2⟩ := ih h
      exact ⟨y, .step a y h1, h2⟩
theorem nextUp_eq {ps : List Int} (v : Int) {a : Int} {d : Nat} (h : Dep ps a d) : ∀ {k : Nat}, d ≤ k →
    (∃ x : Nat, Chn ps a x ∧ ps.getD x 0 = v ∧ nextUp ps v k a = x) ∨ ((∀ x : Nat, Chn ps a x → ps.getD x 0 ≠ v) ∧ nextUp ps v k a = ps.getD v.toNat 0) := by
  induction h with
  | root =>
    intro k _
    refine .inr ⟨fun x hx => by have := hx.nonneg; omega, ?_⟩
    cases k with
    | zero => rfl
    | succ k => rw [nextUp, if_pos (by omega)]
  | step a d ha _ ih =>
    intro k hk
    cases k with
    | zero => omega
    | succ k =>
      rw [nextUp, if_neg (by omega), Int.toNat_natCast]
      by_cases h1 : ps.getD a 0 = v
      · rw [if_pos h1]; exact .inl ⟨a, .refl a, h1, rfl⟩
      · rw [if_neg h1]
        rcases ih (k := k) (by omega) with ⟨x, h2, h3, h4⟩ | ⟨h2, h3⟩
        · exact .inl ⟨x, .step a x h2, h3, h4⟩
        · refine .inr ⟨fun x hx => ?_, h3⟩
          generalize hz : (a : Int) = c at hx
          cases hx with
          | refl =>
            have : a = x := by omega
            subst this; exact h1
          | step c x hx =>
            have : a = c := by omega
            subst this; exact h2 x hx
theorem nextT_self {ps : List Int} {v : Nat} (hv : v < ps.length) : nextT ps v v = v := by
  unfold nextT; simp [hasN, hv]
theorem nextT_eq {ps : List Int} (hok : TreeOk ps) {v h : Nat} (hv : v < ps.length) (hh : h < ps.length) (hne : v ≠ h) :
    (∃ x : Nat, Chn ps h x ∧ ps.getD x 0 = v ∧ nextT ps v h = x) ∨ ((∀ x : Nat, Chn ps h x → ps.getD x 0 ≠ v) ∧ nextT ps v h = ps.getD v 0) := by
  obtain ⟨d, h1, h2⟩ := dep_ex hok hh
  have e : nextT ps v h = nextUp ps v ps.length h := by
    unfold nextT
    rw [if_pos (by simp [hasN, hv, hh]), if_neg (by omega)]
  rw [e]
  have := nextUp_eq (v : Int) h2 h1
  rwa [Int.toNat_natCast] at this
theorem chn_lt {ps : List Int} {a : Int} {x : Nat} (h : Chn ps a x) {d : Nat} (hd : Dep ps a d) : x < ps.length := by
  obtain ⟨e, h1, _⟩ := h.dep hd
  generalize hz : (x : Int) = c at h1
  cases h1 with
  | root => omega
  | step c e hc _ => omega
/-- An arrow along the edge to the parent is one way, not both. -/
theorem arrow_one {ps : List Int} (hok : TreeOk ps) {c p h : Nat} (hc : c < ps.length) (hp : p < ps.length) (hh : h < ps.length) (he : ps.getD c 0 = p) :
    (if nextT ps c h = p then 1 else 0) + (if nextT ps p h = c then 1 else 0) = 1 := by
  obtain ⟨d, hd1, hd⟩ := dep_ex hok hh
  obtain ⟨dp, -, hdp⟩ := dep_ex hok hp
  have hdc : Dep ps c (dp + 1) := .step c dp hc (by rw [he]; exact hdp)
  have hcp : c ≠ p := by rintro rfl; have := hdp.uniq hdc; omega
  have h2 : ps.getD p 0 ≠ c := fun h2 => by
    have h3 : Dep ps p (dp + 1 + 1) := .step p (dp + 1) hp (by rw [h2]; exact hdc)
    have := hdp.uniq h3; omega
  by_cases hin : Chn ps h c
  · have hph : p ≠ h := by
      rintro rfl
      obtain ⟨e, h3, h4, _⟩ := hin.dep hdp
      have := h3.uniq hdc; omega
    have e1 : nextT ps p h = c := by
      rcases nextT_eq hok hp hh hph with ⟨x, h3, h4, h5⟩ | ⟨h3, _⟩
      · have hdx : Dep ps x (dp + 1) := .step x dp (chn_lt h3 hd) (by rw [h4]; exact hdp)
        rw [h5, h3.same hd hin hdx hdc]
      · exact absurd he (h3 c hin)
    have e2 : nextT ps c h ≠ p := by
      by_cases hch : c = h
      · subst hch; rw [nextT_self hc]; omega
      · rcases nextT_eq hok hc hh hch with ⟨x, h3, h4, h5⟩ | ⟨h3, _⟩
        · rw [h5]; intro h6
          have : x = p := by omega
          subst this; exact h2 h4
        · obtain ⟨y, h4, h5⟩ := hin.child (by omega)
          exact absurd h5 (h3 y h4)
    rw [if_neg e2, if_pos e1]
  · have hch : c ≠ h := by rintro rfl; exact hin (.refl c)
    have e1 : nextT ps c h = p := by
      rcases nextT_eq hok hc hh hch with ⟨x, h3, h4, _⟩ | ⟨_, h3⟩
      · exact absurd (h3.trans (.step x c (by rw [h4]; exact .refl c))) hin
      · rw [h3, he]
    have e2 : nextT ps p h ≠ c := by
      by_cases hph : p = h
      · subst hph; rw [nextT_self hp]; omega
      · rcases nextT_eq hok hp hh hph with ⟨x, h3, h4, h5⟩ | ⟨_, h3⟩
        · rw [h5]; intro h6
          have : x = c := by omega
          subst this; exact hin h3
        · rw [h3]; exact h2
    rw [if_pos e1, if_neg e2]
theorem arrow_near {ps : List Int} (hok : TreeOk ps) {u v h : Nat} (hu : u < ps.length) (hv : v < ps.length) (hh : h < ps.length) (hn : nearB ps u v = true) :
    (if nextT ps u h = v then 1 else 0) + (if nextT ps v h = u then 1 else 0) = 1 := by
  unfold nearB at hn
  simp only [Int.toNat_natCast, Bool.or_eq_true, beq_iff_eq] at hn
  rcases hn with h1 | h1
  · exact arrow_one hok hu hv hh h1
  · rw [Nat.add_comm]; exact arrow_one hok hv hu hh h1
theorem dep_root {ps : List Int} {a : Int} {d : Nat} (h : Dep ps a d) : a ≠ -1 → ∃ r : Nat, Chn ps a r ∧ r < ps.length ∧ ps.getD r 0 = -1 := by
  induction h with
  | root => exact fun h => absurd rfl h
  | step a d ha hd ih =>
    intro _
    by_cases h1 : ps.getD a 0 = -1
    · exact ⟨a, .refl a, ha, h1⟩
    · obtain ⟨r, h2, h3, h4⟩ := ih h1
      exact ⟨r, .step a r h2, h3, h4⟩
theorem root_one {ps : List Int} (hok : TreeOk ps) {u v : Nat} (hu : u < ps.length) (hv : v < ps.length) (h1 : ps.getD u 0 = -1) (h2 : ps.getD v 0 = -1) : u = v := by
  have key : ∀ {u v : Nat}, u < ps.length → v < ps.length → ps.getD u 0 = -1 → ps.getD v 0 = -1 → ¬ u < v := by
    intro u v hu hv h1 h2 hlt
    have := hok.fault v hv
    unfold faultB at this
    rw [h2] at this
    have hm : (ps.take v).contains (-1) = true := by
      rw [List.contains_iff_mem]
      rw [List.mem_take_iff_getElem]
      refine ⟨u, by omega, ?_⟩
      rw [← h1, idx_at hu]
    rw [hm] at this
    simp at this
  have := key hu hv h1 h2
  have := key hv hu h2 h1
  omega
/-- The next node is a neighbour. -/
theorem next_near {ps : List Int} (hok : TreeOk ps) {v h : Nat} (hv : v < ps.length) (hh : h < ps.length) (hne : v ≠ h) : ∃ w : Nat, w < ps.length ∧ w ≠ v ∧ nextT ps v h = w ∧ nearB ps v w = true := by
  obtain ⟨d, hd1, hd⟩ := dep_ex hok hh
  have hin := hok.in hv
  have hi := idx_at hv
  rcases nextT_eq hok hv hh hne with ⟨x, h3, h4, h5⟩ | ⟨h3, h4⟩
  · have hx := chn_lt h3 hd
    refine ⟨x, hx, ?_, h5, ?_⟩
    · rintro rfl; have := (hok.in hx).2.2; have := idx_at hx; omega
    · unfold nearB; simp only [Int.toNat_natCast, h4, beq_self_eq_true, Bool.or_true]
  · have hp : ps.getD v 0 ≠ -1 := fun h5 => by
      obtain ⟨r, h6, h7, h8⟩ := dep_root hd (by omega)
      have := root_one hok hv h7 h5 h8
      subst this
      obtain ⟨y, h9, h10⟩ := h6.child (by omega)
      exact h3 y h9 h10
    refine ⟨(ps.getD v 0).toNat, by omega, by omega, by rw [h4]; omega, ?_⟩
    unfold nearB
    simp only [Int.toNat_natCast]
    rw [show (((ps.getD v 0).toNat : Nat) : Int) = ps.getD v 0 by omega]; simp
/- First states. -/
def firstL (ps homes : List Int) : List Nst := (List.range ps.length).map fun v : Nat => firstS ps homes v
theorem homes_at {n : Nat} {homes : List Int} (hh : homesB n homes = true) {k : Nat} (hk : k < homes.length) : ∃ h : Nat, homes[k] = h ∧ h < n := by
  unfold homesB at hh
  simp only [Bool.and_eq_true, List.all_eq_true, withinB, decide_eq_true_eq] at hh
  have := hh.2 _ (List.getElem_mem hk)
  exact ⟨homes[k].toNat, by omega, by omega⟩
theorem homes_len {n : Nat} {homes : List Int} (hh : homesB n homes = true) : 1 ≤ homes.length ∧ homes.length ≤ 8 := by
  unfold homesB at hh
  simp only [Bool.and_eq_true, withinB, decide_eq_true_eq] at hh
  omega
theorem next_nbr {ps : List Int} (hok : TreeOk ps) {v h : Nat} (hv : v < ps.length) (hh : h < ps.length) (hne : v ≠ h) : nextT ps v h ∈ nbr ps v ∧ nextT ps v h ≠ v := by
  obtain ⟨w, h1, h2, h3, h4⟩ := next_near hok hv hh hne
  rw [h3]
  refine ⟨(mem_nbr hok v w).2 ⟨by simp [hasN, hv], by simp [hasN, h1], h4⟩, by omega⟩
theorem firstO_ok {ps : List Int} (hok : TreeOk ps) {v h : Nat} (hv : v < ps.length) (hh : h < ps.length) : ownB ps v (firstO ps v h) = true := by
  unfold ownB firstO
  by_cases he : (h : Int) = v
  · have : h = v := by omega
    subst this
    rw [if_pos rfl, nextT_self hv]
    simp [withinB, goodC, cellAt, cellOk, bareB, lastOk]
    omega
  · rw [if_neg he]
    obtain ⟨h1, h2⟩ := next_nbr hok hv hh (by omega)
    simp [withinB, goodC, lastOk, h1]
    exact h2
theorem openS_first (ps : List Int) (me : Int) (homes : List Int) : openS (homes.map (firstO ps me)) = 0 := by
  unfold openS
  rw [List.map_map]
  induction homes with
  | nil => rfl
  | cons h r ih =>
    rw [List.map_cons, List.sum_cons, ih]
    simp only [Function.comp_def, firstO]
    split <;> simp [openN, busyB]
theorem zip_first (n k : Int) (l : List Int) (hl : ∀ x ∈ l, 0 ≤ x ∧ x ≤ 31) : (l.zip (l.map firstE)).all (edgeB n k) = true := by
  induction l with
  | nil => rfl
  | cons x r ih =>
    rw [List.map_cons, List.zip_cons_cons, List.all_cons, ih fun y hy => hl y (List.mem_cons_of_mem _ hy), Bool.and_true]
    have := hl x List.mem_cons_self
    simp [edgeB, firstE, goodE, withinB, this.1, this.2]
theorem first_good {ps homes : List Int} (hok : TreeOk ps) (hh : homesB ps.length homes = true) {v : Nat} (hv : v < ps.length) : goodS ps (firstS ps homes v) = true := by
  have hn := hok.len
  have hl := homes_len hh
  unfold goodS firstS
  have e1 : (homes.map (firstO ps v)).all (ownB ps v) = true := by
    rw [List.all_eq_true]
    intro o ho
    obtain ⟨x, hx, rfl⟩ := List.mem_map.1 ho
    obtain ⟨k, hk, rfl⟩ := List.getElem_of_mem hx
    obtain ⟨h, h1, h2⟩ := homes_at hh hk
    rw [h1]; exact firstO_ok hok hv h2
  have e2 : edgesB ps ⟨v, homes.map (firstO ps v), (nbr ps v).map firstE, 0, [], []⟩ = true := by
    unfold edgesB
    rw [List.length_map, beq_self_eq_true, Bool.true_and]
    apply zip_first
    intro x hx
    have := ((mem_nbr hok v x).1 hx).2.1
    simp only [hasN, decide_eq_true_eq] at this
    omega
  simp only [e1, e2, openS_first]
  simp [withinB, asksB]
  omega
theorem firstL_len (ps homes : List Int) : (firstL ps homes).length = ps.length := by simp [firstL]
theorem firstL_at {ps homes : List Int} {v : Nat} (hv : v < (firstL ps homes).length) : (firstL ps homes)[v] = firstS ps homes v := by simp [firstL]
theorem firstL_at0 {ps homes : List Int} {v : Nat} (hv : v < ps.length) : at0 (firstL ps homes) v = firstS ps homes v := by
  rw [at0_at (by rw [Int.toNat_natCast, firstL_len]; exact hv)]
  simp only [Int.toNat_natCast]
  exact firstL_at _
theorem first_objN {ps homes : List Int} (hok : TreeOk ps) : objN (firstL ps homes) = homes.length := by
  have hn := hok.len
  rw [objN_eq (by rw [firstL_len]; omega), firstL_at]
  simp [firstS]
theorem first_fit {ps homes : List Int} (hok : TreeOk ps) (hh : homesB ps.length homes = true) : fitB ps (firstL ps homes) = true := by
  unfold fitB
  rw [firstL_len, beq_self_eq_true, Bool.true_and, allI_iff]
  intro i hi
  rw [firstL_at hi, first_objN hok]
  unfold fitAt
  rw [first_good hok hh (by rw [firstL_len] at hi; exact hi)]
  simp [firstS]
theorem outR_nil {seen v : Int} {es : List Sid} (h : ∀ e ∈ es, e.out = []) : outR seen v es = [] := by
  induction es with
  | nil => rfl
  | cons e r ih =>
    rw [outR, h e List.mem_cons_self, ih fun x hx => h x (List.mem_cons_of_mem _ hx)]
    simp [leftI]
theorem first_left {ps homes : List Int} (u v : Int) : leftR ps (firstL ps homes) u v = [] := by
  unfold leftR
  split
  · apply outR_nil
    intro e he
    unfold at0 firstL at he
    rw [List.getD_eq_getElem?_getD] at he
    cases hx : ((List.range ps.length).map fun v : Nat => firstS ps homes v)[u.toNat]? with
    | none => rw [hx] at he; simp at he
    | some s =>
      rw [hx] at he
      obtain ⟨i, -, rfl⟩ := List.mem_map.1 (List.mem_of_getElem? hx)
      simp only [Option.getD_some, firstS, List.mem_map] at he
      obtain ⟨w, _, rfl⟩ := he
      rfl
  · rfl
theorem first_own {ps homes : List Int} {v : Int} {k : Nat} (hk : k < homes.length) : ownO (k : Int) (firstS ps homes v) = firstO ps v homes[k] := by
  unfold ownO firstS
  rw [Int.toNat_natCast, List.getD_eq_getElem?_getD, List.getElem?_eq_getElem (by simpa using hk)]
  simp
theorem first_place {ps homes : List Int} {k : Nat} (hk : k < homes.length) {h : Nat} (hh : homes[k] = h) : ∀ l : List Nat, placeS (k : Int) (l.map fun v : Nat => firstS ps homes v) = l.count h := by
  intro l
  induction l with
  | nil => rfl
  | cons v r ih =>
    rw [List.map_cons, placeS, ih, first_own hk, hh, List.count_cons]
    unfold firstO placeC
    by_cases he : h = v
    · subst he; simp; omega
    · have h1 : ¬ (h : Int) = v := by omega
      have h2 : ¬ v = h := fun e => he e.symm
      simp [h1, h2]
theorem count_range' (h : Nat) : ∀ (k s : Nat), (List.range' s k).count h = if s ≤ h ∧ h < s + k then 1 else 0 := by
  intro k
  induction k with
  | zero => intro s; simp
  | succ k ih =>
    intro s
    rw [List.range'_succ, List.count_cons, ih]
    by_cases h1 : s = h
    · subst h1; simp; omega
    · have h1' : ¬ (s == h) = true := by simpa using h1
      rw [if_neg h1']
      by_cases h2 : s + 1 ≤ h ∧ h < s + 1 + k
      · rw [if_pos h2, if_pos (by omega)]
      · rw [if_neg h2, if_neg (by omega)]
theorem first_sink {ps homes : List Int} (hok : TreeOk ps) {k : Nat} (hk : k < homes.length) {h : Nat} (hh : homes[k] = h) (hn : h < ps.length) : ∀ (m s : Nat), s + m ≤ ps.length → sinkS (k : Int) s ((List.range' s m).map fun v : Nat => firstS ps homes v) = (List.range' s m).count h := by
  intro m
  induction m with
  | zero => intro s _; rfl
  | succ m ih =>
    intro s hs
    rw [List.range'_succ, List.map_cons, sinkS, ih (s + 1) (by omega), first_own hk, hh, List.count_cons, Nat.add_comm]
    congr 1
    unfold firstO
    by_cases he : s = h
    · subst he
      rw [nextT_self (by omega)]; simp
    · have h1 := (next_nbr hok (v := s) (by omega) hn he).2
      have h2 : ¬ (s == h) = true := by simpa using he
      rw [if_neg h1, if_neg h2]
theorem first_heir {ps homes : List Int} (T : Int × Int → Nat) {k : Nat} (hk : k < homes.length) : ∀ (l : List Nat) (i : Nat), heirB T (k : Int) i (l.map fun v : Nat => firstS ps homes v) = true := by
  intro l
  induction l with
  | nil => intro i; rfl
  | cons v r ih =>
    intro i
    rw [List.map_cons, heirB, ih, first_own hk, Bool.and_true]
    unfold firstO heirC
    simp only
    split <;> simp
theorem first_hold {ps homes : List Int} {k : Nat} (hk : k < homes.length) {h : Nat} (hh : homes[k] = h) : ∀ (m s : Nat), s ≤ h → h < s + m → holdL (k : Int) s ((List.range' s m).map fun v : Nat => firstS ps homes v) = ((h : Int), 0) := by
  intro m
  induction m with
  | zero => intro s _ _; omega
  | succ m ih =>
    intro s h1 h2
    rw [List.range'_succ, List.map_cons, holdL]
    have hx : hereAt (k : Int) (firstS ps homes s) = if h = s then some 0 else none := by
      unfold hereAt firstS
      simp only [List.length_map]
      rw [if_pos (by omega)]
      simp only [Int.toNat_natCast, List.getElem?_map, List.getElem?_eq_getElem hk, Option.map_some, Option.getD_some, hh, firstO]
      by_cases he : h = s
      · subst he; simp
      · have : ¬ (h : Int) = s := by omega
        simp [he, this]
    rw [hx]
    by_cases he : h = s
    · subst he; simp
    · rw [if_neg he]
      exact ih (s + 1) (by omega) (by omega)
theorem first_holder {ps homes : List Int} (hh : homesB ps.length homes = true) {k : Nat} (hk : k < homes.length) : holder (firstL ps homes) k = (homes[k], 0) := by
  obtain ⟨h, h1, h2⟩ := homes_at hh hk
  unfold holder firstL
  rw [List.range_eq_range', first_hold hk h1 _ 0 (by omega) (by omega), h1]
theorem sumT_nil {f : Nat → Nat} {n : Nat} (h : ∀ i, f i = 0) : sumT f n = 0 := by
  rw [sumT_congr (g := fun _ => 0) fun i _ => h i]; exact sumT_zero n
theorem first_law {ps homes : List Int} (hok : TreeOk ps) (hh : homesB ps.length homes = true) {k : Nat} (hk : k < homes.length) : lawR ps (firstL ps homes) k = 0 := by
  obtain ⟨h, h1, h2⟩ := homes_at hh hk
  have hc : ∀ kd, cntR ps (firstL ps homes) kd k = 0 := fun kd => by
    unfold cntR
    exact sumT_nil fun u => sumT_nil fun v => by rw [first_left]; rfl
  have hp : placeS (k : Int) (firstL ps homes) = 1 := by
    unfold firstL
    rw [first_place hk h1, List.range_eq_range', count_range', if_pos (by omega)]
  have hs : sinkS (k : Int) 0 (firstL ps homes) = 1 := by
    unfold firstL
    rw [List.range_eq_range', first_sink hok hk h1 h2 _ 0 (by omega), count_range', if_pos (by omega)]
  have he : edgesR ps (firstL ps homes) k = true := by
    rw [edgesR_iff]
    intro u hu v hv
    unfold pairR
    by_cases hc : u < v ∧ nearB ps u v = true
    · have : overR ps (firstL ps homes) k u v = 1 := by
        unfold overR overL
        rw [firstL_at0 hu, firstL_at0 hv, first_own hk, first_own hk, first_left, first_left, h1]
        have := arrow_near hok hu hv h2 hc.2
        simp only [firstO, List.append_nil]
        rw [show cntM 1 (k : Int) [] = 0 from rfl]
        by_cases a1 : nextT ps u h = (v : Int) <;> by_cases a2 : nextT ps v h = (u : Int) <;> simp only [a1, a2, if_true, if_false] at this ⊢ <;> omega
      rw [this]; simp
    · have : (decide (u < v) && nearB ps u v) = false := by
        rw [Bool.eq_false_iff]; intro h2; simp only [Bool.and_eq_true, decide_eq_true_eq] at h2; exact hc h2
      rw [this]; rfl
  have hr : ∀ T, heirB T (k : Int) 0 (firstL ps homes) = true := fun T => first_heir T hk _ 0
  unfold lawR
  rw [← fit_eq hok, first_fit hok hh, first_objN hok, hc, hc, hp, hs, he, hr]
  have h3 : (decide ((0 : Int) ≤ k)) = true := by simp
  have h4 : decide ((k : Int) < (homes.length : Int)) = true := by simpa using hk
  rw [h3, h4]
  rfl
theorem first_out {ps homes : List Int} (hok : TreeOk ps) {k : Int} (hk : ¬ (0 ≤ k ∧ k < homes.length)) : lawR ps (firstL ps homes) k = 1 := by
  unfold lawR
  rw [first_objN hok, if_neg]
  simp only [Bool.and_eq_true, decide_eq_true_eq]
  omega
theorem first_count {ps homes : List Int} (hok : TreeOk ps) (hh : homesB ps.length homes = true) (kd obj : Int) : ∀ l, countL ps (firstL ps homes) kd obj l = 0 := by
  intro l
  have hl : ∀ u v, leftL ps (firstL ps homes) u v = [] := fun u v => by rw [left_eq hok (first_fit hok hh), first_left]
  induction l with
  | nil => rfl
  | cons p r ih => rw [countL, ih]; unfold bothL; rw [hl, hl]; rfl
theorem first_sized {ps homes : List Int} (hok : TreeOk ps) (hh : homesB ps.length homes = true) : ∀ s ∈ firstL ps homes, Sized s := by
  intro s hs
  obtain ⟨v, hv, rfl⟩ := List.mem_map.1 hs
  have hn := hok.len
  have hl := homes_len hh
  have hb := nbr_len ps v
  refine ⟨by simp [firstS]; omega, by simp [firstS]; omega, by simp [firstS], by simp [firstS], ?_, ?_⟩
  · intro o ho
    simp only [firstS, List.mem_map] at ho
    obtain ⟨x, _, rfl⟩ := ho
    unfold firstO; simp only; split <;> simp
  · intro e he
    simp only [firstS, List.mem_map] at he
    obtain ⟨x, _, rfl⟩ := he
    simp [firstE]
end Go.Gh
