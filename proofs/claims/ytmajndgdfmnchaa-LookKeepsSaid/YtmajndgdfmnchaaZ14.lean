/- Part of a proof: what functions of the given program compute, and plain laws of it. -/
import Derived.Test.YtmajndgdfmnchaaZ13
import Derived.Test.YtmajndgdfmnchaaT5
/- A side of an edge; the messages that are left. -/
namespace Go.Gh
/-- The first side to a peer. -/
def sideE (es : List Sid) (peer : Int) : Int := idxP (fun e => e.peer == peer) es
def sideO (s : Nst) (peer : Int) : Sid := (s.edges.find? fun e => e.peer == peer).getD ⟨0, 0, [], 0⟩
def at0 (ss : List Nst) (u : Int) : Nst := ss.getD u.toNat ⟨0, [], [], 0, [], []⟩
def leftL (ps : List Int) (ss : List Nst) (u v : Int) : List Msg :=
  if fitB ps ss && decide (v ∈ nbr ps u) then (leftI (sideO (at0 ss u) v).base (sideO (at0 ss v) u).seen 0 (sideO (at0 ss u) v).out).map Prod.snd else []
theorem edgesB_at {ps : List Int} {s : Nst} (h : edgesB ps s = true) : (nbr ps s.me).length = s.edges.length ∧ ∀ j (h1 : j < (nbr ps s.me).length) (h2 : j < s.edges.length), s.edges[j].peer = (nbr ps s.me)[j] ∧ goodE s.edges[j] = true ∧ s.edges[j].out.all (meantB ps.length s.objs.length) = true := by
  unfold edgesB at h
  simp only [Bool.and_eq_true, beq_iff_eq] at h
  refine ⟨h.1, fun j h1 h2 => ?_⟩
  have h3 := List.all_eq_true.1 h.2 ((nbr ps s.me)[j], s.edges[j]) (by
    have hz : j < ((nbr ps s.me).zip s.edges).length := by simp; omega
    have := List.getElem_mem hz
    rwa [List.getElem_zip] at this)
  unfold edgeB at h3
  simp only [Bool.and_eq_true, beq_iff_eq] at h3
  exact ⟨h3.1.1, h3.1.2, h3.2⟩
theorem goodS_edges {ps : List Int} {s : Nst} (h : goodS ps s = true) : edgesB ps s = true := by
  unfold goodS at h
  simp only [Bool.and_eq_true] at h
  exact h.1.2
/-- The side of an edge is there. -/
theorem side_at {ps : List Int} {s : Nst} {v : Int} (h : goodS ps s = true) (hv : v ∈ nbr ps s.me) : ∃ i, ∃ hi : i < s.edges.length, sideE s.edges v = i ∧ sideO s v = s.edges[i] ∧ goodE s.edges[i] = true ∧ s.edges[i].peer = v := by
  obtain ⟨h1, h2⟩ := edgesB_at (goodS_edges h)
  obtain ⟨j, hj, rfl⟩ := List.getElem_of_mem hv
  unfold sideE sideO
  rcases idxP_cases (fun e : Sid => e.peer == (nbr ps s.me)[j]) s.edges with ⟨ha, hb⟩ | ⟨i, hi, ha, hb⟩
  · have := List.find?_eq_none.1 hb s.edges[j] (List.getElem_mem (by omega))
    rw [(h2 j hj (by omega)).1] at this
    simp at this
  · refine ⟨i, hi, ha, by rw [hb]; rfl, (h2 i (by omega) hi).2.1, ?_⟩
    have := List.find?_some hb
    simpa using this
theorem mem_nbr {ps : List Int} (h : TreeOk ps) (u v : Int) : v ∈ nbr ps u ↔ hasN ps u = true ∧ hasN ps v = true ∧ nearB ps u v = true := by
  rw [nbr_eq h]
  unfold refNbr
  by_cases hu : hasN ps u = true
  · rw [if_pos hu, mem_refN]
    constructor
    · rintro ⟨w, h1, h2, rfl⟩
      refine ⟨hu, by simp [hasN, h1], ?_⟩
      unfold nearB at h2 ⊢
      rwa [Bool.or_comm]
    · rintro ⟨_, h2, h3⟩
      have h2' := h2
      simp only [hasN, decide_eq_true_eq] at h2'
      refine ⟨v.toNat, by omega, ?_, by omega⟩
      rw [show ((v.toNat : Nat) : Int) = v by omega]
      unfold nearB at h3 ⊢
      rwa [Bool.or_comm]
  · rw [if_neg hu]; simp [hu]
theorem mem_nbr_comm {ps : List Int} (h : TreeOk ps) {u v : Int} (hv : v ∈ nbr ps u) : u ∈ nbr ps v := by
  rw [mem_nbr h] at hv ⊢
  refine ⟨hv.2.1, hv.1, ?_⟩
  have := hv.2.2
  unfold nearB at this ⊢
  rwa [Bool.or_comm]
theorem at0_at {ss : List Nst} {u : Int} (h1 : u.toNat < ss.length) : at0 ss u = ss[u.toNat] := by
  unfold at0; simp [h1]
theorem leftI_len (base seen : Int) (i : Nat) (l : List Msg) : (leftI base seen i l).length ≤ l.length := by
  induction l generalizing i with
  | nil => simp [leftI]
  | cons m r ih => rw [leftI_cons]; split <;> (have := ih (i + 1); simp; omega)
end Go.Gh
namespace Go.Proofs.Ytmajndgdfmnchaa
open Go Go.T Go.Gh Go.Proofs
set_option linter.unusedSimpArgs false
set_option maxRecDepth 10000
set_option maxHeartbeats 4000000
theorem IndexFunc_Sid_at {g : Nat} {caps : List AV} (p : Sid → Bool) (ns : List Sid) (ex : Bool) (hlen : ns.length < 2 ^ 61) (h : Hp) (hb : hasBody Try.prog g = true)
    (hf : ∀ x ∈ ns, CallK Try.prog g ([encE x] ++ caps) h (fun r h' => r = .bool (p x) ∧ h' = h)) :
    CallK Try.prog 87 [.l ex 4 (ns.map encE), .fn (.func g) caps] h (fun r h' => r = .int .i64 (idxP p ns) ∧ h' = h) := by
  refine PureAt.of_awp mixed (fun _ => []) (fn := Try.f87) (by kernel_rfl) rfl (by kernel_rfl) (by show 2 ≤ _; decide) (by simp [AV.lf]) ?_
  simp only [go_sem, I_eq, I_cells, Nat.reduceAdd, Nat.reduceBEq, Nat.reduceEqDiff, Nat.reduceLeDiff, Nat.reduceLT, Nat.reduceSub]
  refine awp_count 8 7 ns.length (by omega) (fun i s => s.slots 0 = .l ex 4 (ns.map encE) ∧ s.slots 1 = .fn (.func g) caps ∧ (∀ x ∈ ns.take i, p x = false) ∧ s.hp = h) ?_ ?_ ?_ ?_ ?_
  · simp only [go_sem, I_eq, I_cells, Nat.reduceAdd, Nat.reduceBEq, Nat.reduceEqDiff, Nat.reduceLeDiff, Nat.reduceLT, Nat.reduceSub]
  · simp only [go_sem, I_eq, I_cells, Nat.reduceAdd, Nat.reduceBEq, Nat.reduceEqDiff, Nat.reduceLeDiff, Nat.reduceLT, Nat.reduceSub]
  · simp only [go_sem, I_eq, I_cells, Nat.reduceAdd, Nat.reduceBEq, Nat.reduceEqDiff, Nat.reduceLeDiff, Nat.reduceLT, Nat.reduceSub]
    exact fun x hx => by simp at hx
  · rintro i s hlt d2 hw g8 g7 ⟨h0, h1, hn, hH⟩
    repeat' first
      | (with_reducible refine CondX.dec (fun c => ?_) (fun c => ?_)) <;> try (exfalso; omega)
      | (with_reducible refine CondX.beq (fun c => ?_) (fun c => ?_)) <;> try (exfalso; omega)
      | (with_reducible refine CondX.bne (fun c => ?_) (fun c => ?_)) <;> try (exfalso; omega)
      | (with_reducible refine CondX.bool (fun c => ?_) (fun c => ?_)) <;> try (exfalso; omega)
      | ((with_reducible refine CallX.id ?_); first | refine CallX.at (hf ns[i] (List.getElem_mem hlt)) ?_)
      | simp only [go_sem, I_eq, I_cells, d2, hw, g8, g7, h0, h1, hH, hb, encE_cells, Nat.reduceAdd, Nat.reduceBEq, Nat.reduceEqDiff, Nat.reduceLeDiff, Nat.reduceLT, Nat.reduceSub]
      | simp (disch := omega) only [wrap_in, toNat_succ, toNat_pred, Int.toNat_natCast]
      | with_reducible refine And.intro (by omega) ?_
      | with_reducible refine exI (by omega) ?_
      | fail
    · exact ⟨by rw [idxP_at p ns i hlt c hn], Keeps.refl h⟩
    · intro x hx
      rw [List.take_succ_eq_append_getElem hlt] at hx
      rcases List.mem_append.1 hx with hx | hx
      · exact hn x hx
      · rw [List.mem_singleton.1 hx]; exact c
  · rintro s d2 g8 g7 ⟨h0, h1, hn, hH⟩
    rw [List.take_length] at hn
    simp only [go_sem, I_eq, I_cells, d2, g8, g7, h0, h1, hH, Nat.reduceAdd, Nat.reduceBEq, Nat.reduceEqDiff, Nat.reduceLeDiff, Nat.reduceLT, Nat.reduceSub]
    exact ⟨by rw [idxP_none p ns hn], Keeps.refl h⟩
theorem side1_spec (peer : Int) (e : Sid) (L3 : Lab) (h : Hp) (h3 : h.con L3 = .blk [.int .i64 peer]) (n3 : L3.f ≠ 88) : CallK Try.prog 88 [encE e, .pt L3 0 0 0] h (fun r h' => r = .bool (e.peer == peer) ∧ h' = h) := by
  refine PureAt.of_awp mixed (fun _ => []) (fn := Try.f88) (by kernel_rfl) rfl (by kernel_rfl) (by show 2 ≤ _; decide) (by simp [AV.lf]) ?_
  have e3 : (L3 = ⟨88, 2, h.cnt 88 2⟩) = False := by simp; rintro rfl; exact n3 rfl
  repeat' first
    | (with_reducible refine CondX.dec (fun c => ?_) (fun c => ?_)) <;> try (exfalso; omega)
    | (with_reducible refine CondX.beq (fun c => ?_) (fun c => ?_)) <;> try (exfalso; omega)
    | (with_reducible refine CondX.bne (fun c => ?_) (fun c => ?_)) <;> try (exfalso; omega)
    | (with_reducible refine CondX.bool (fun c => ?_) (fun c => ?_)) <;> try (exfalso; omega)
    | simp only [go_sem, I_eq, I_cells, encE, encE_cells, e3, h3, Nat.reduceAdd, Nat.reduceBEq, Nat.reduceEqDiff, Nat.reduceLeDiff, Nat.reduceLT, Nat.reduceSub]
    | simp (disch := omega) only [wrap_in, toNat_succ, toNat_pred, Int.toNat_natCast]
    | with_reducible refine And.intro (by omega) ?_
    | with_reducible refine exI (by omega) ?_
    | fail
  ((repeat first | with_reducible apply Keeps.alloc | (with_reducible refine Keeps.set ?_ ?hL _; case hL => first | assumption | exact Hp.ok _ _ (by simp) | exact Keeps.new (by assumption) _ _)); first | assumption | exact Keeps.refl _)
theorem side_spec (ss : List Nst) (ex : Bool) (v i : Nat) (peer : Int) (hv : v < ss.length) (hp : sideE ss[v].edges peer = i) (hi : i < ss[v].edges.length) (hel : ss[v].edges.length < 2 ^ 60) : PureF Try.prog 57 [.l ex 6 (ss.map encS), .int .i64 v, .int .i64 peer] (encE ss[v].edges[i]) := by
  refine PureF.of_awp mixed (fun _ => []) (fn := Try.f57) (by kernel_rfl) rfl (by kernel_rfl) (by show 3 ≤ _; decide) (by simp [AV.lf, AV.lfs, encE, M_lfs]) (fun h => ?_)
  unfold sideE at hp
  repeat' first
    | (with_reducible refine CondX.dec (fun c => ?_) (fun c => ?_)) <;> try (exfalso; omega)
    | (with_reducible refine CondX.beq (fun c => ?_) (fun c => ?_)) <;> try (exfalso; omega)
    | (with_reducible refine CondX.bne (fun c => ?_) (fun c => ?_)) <;> try (exfalso; omega)
    | (with_reducible refine CondX.bool (fun c => ?_) (fun c => ?_)) <;> try (exfalso; omega)
    | ((with_reducible refine CallX.id ?_); first | refine CallX.at (IndexFunc_Sid_at (fun e => e.peer == peer) ss[v].edges _ (by omega) _ (by kernel_rfl) (fun c hc => side1_spec peer c _ _ (by simp only [go_sem, I_eq, I_cells, Nat.reduceAdd, Nat.reduceBEq, Nat.reduceEqDiff, Nat.reduceLeDiff, Nat.reduceLT, Nat.reduceSub]) (by simp))) ?_)
    | simp only [go_sem, I_eq, I_cells, encE, encS_cells, encE_cells, hp, Int.toNat_natCast, Nat.reduceAdd, Nat.reduceBEq, Nat.reduceEqDiff, Nat.reduceLeDiff, Nat.reduceLT, Nat.reduceSub]
    | simp (disch := omega) only [wrap_in, toNat_succ, toNat_pred, Int.toNat_natCast]
    | with_reducible refine And.intro (by omega) ?_
    | with_reducible refine exI (by omega) ?_
    | fail
  ((repeat first | with_reducible apply Keeps.alloc | (with_reducible refine Keeps.set ?_ ?hL _; case hL => first | assumption | exact Hp.ok _ _ (by simp) | exact Keeps.new (by assumption) _ _)); first | assumption | exact Keeps.refl _)
theorem Left_none (h : Hp) (ps : List Int) (ss : List Nst) (ex : Bool) (u v : Int) (hps : 0 < ps.length ∧ ps.length < 2 ^ 29) (hs : ∀ s ∈ ss, Sized s) (hn : (fitB ps ss && decide (v ∈ nbr ps u)) = false) : CallK Try.prog 24 [treeV ps, .l ex 6 (ss.map encS), .int .i64 u, .int .i64 v] h (OwnR 5 [] h) := by
  refine CallK.of_awpH mixed (fun _ => []) (fn := Try.f24) (by kernel_rfl) rfl (by kernel_rfl) (by show 4 ≤ _; decide) ?_
  have hl := nbr_len ps u
  rw [awp_assoc]
  refine awp_cut (fun _ => False) ?_ (fun s hs => hs.elim)
  cases hf : fitB ps ss
  · repeat' first
      | (with_reducible refine CondX.dec (fun c => ?_) (fun c => ?_)) <;> try (exfalso; omega)
      | (with_reducible refine CondX.beq (fun c => ?_) (fun c => ?_)) <;> try (exfalso; omega)
      | (with_reducible refine CondX.bne (fun c => ?_) (fun c => ?_)) <;> try (exfalso; omega)
      | (with_reducible refine CondX.bool (fun c => ?_) (fun c => ?_)) <;> try (exfalso; omega)
      | ((with_reducible refine CallX.id ?_); first | refine CallX.pure (Fit_spec ps ss ex hps hs) ?_)
      | ((with_reducible refine PureX.id ?_); first | refine PureX.of (Fit_spec ps ss ex hps hs) ?_)
      | simp only [go_sem, I_eq, I_cells, hf, Nat.reduceAdd, Nat.reduceBEq, Nat.reduceEqDiff, Nat.reduceLeDiff, Nat.reduceLT, Nat.reduceSub]
      | simp (disch := omega) only [wrap_in, toNat_succ, toNat_pred, Int.toNat_natCast]
      | with_reducible refine And.intro (by omega) ?_
      | with_reducible refine exI (by omega) ?_
      | fail
    exact ⟨.nil, Keeps.refl h⟩
  · rw [hf] at hn
    simp only [Bool.true_and, decide_eq_false_iff_not] at hn
    repeat' first
      | (with_reducible refine CondX.dec (fun c => ?_) (fun c => ?_)) <;> try (exfalso; omega)
      | (with_reducible refine CondX.beq (fun c => ?_) (fun c => ?_)) <;> try (exfalso; omega)
      | (with_reducible refine CondX.bne (fun c => ?_) (fun c => ?_)) <;> try (exfalso; omega)
      | (with_reducible refine CondX.bool (fun c => ?_) (fun c => ?_)) <;> try (exfalso; omega)
      | ((with_reducible refine CallX.id ?_); first | refine CallX.pure (Fit_spec ps ss ex hps hs) ?_ | refine CallX.pure (Neighbours_spec ps u (by omega)) ?_ | refine CallX.pure (Contains_int_spec (nbr ps u) false v (by omega)) ?_)
      | ((with_reducible refine PureX.id ?_); first | refine PureX.of (Fit_spec ps ss ex hps hs) ?_ | refine PureX.of (Neighbours_spec ps u (by omega)) ?_ | refine PureX.of (Contains_int_spec (nbr ps u) false v (by omega)) ?_)
      | simp only [go_sem, I_eq, I_cells, hf, hn, Nat.reduceAdd, Nat.reduceBEq, Nat.reduceEqDiff, Nat.reduceLeDiff, Nat.reduceLT, Nat.reduceSub]
      | simp (disch := omega) only [wrap_in, toNat_succ, toNat_pred, Int.toNat_natCast]
      | with_reducible refine And.intro (by omega) ?_
      | with_reducible refine exI (by omega) ?_
      | fail
    exact ⟨.nil, Keeps.refl h⟩
theorem Left_some (h : Hp) (ps : List Int) (ss : List Nst) (ex : Bool) (a b : Nat) (hok : TreeOk ps) (hs : ∀ s ∈ ss, Sized s) (hf : fitB ps ss = true) (hv : (b : Int) ∈ nbr ps a) : CallK Try.prog 24 [treeV ps, .l ex 6 (ss.map encS), .int .i64 a, .int .i64 b] h (OwnR 5 ((leftL ps ss a b).map encM) h) := by
  have hps := hok.len
  have hl := nbr_len ps a
  obtain ⟨hln, hat⟩ := fit_at hf
  have hm := (mem_nbr hok a b).1 hv
  have ha : a < ss.length := by have := hm.1; simp [hasN] at this; omega
  have hb : b < ss.length := by have := hm.2.1; simp [hasN] at this; omega
  obtain ⟨i, hi, s1, o1, g1, -⟩ := side_at (v := (b : Int)) (hat a ha).2.1 (by rw [(hat a ha).1]; exact hv)
  obtain ⟨j, hj, s2, o2, g2, -⟩ := side_at (v := (a : Int)) (hat b hb).2.1 (by rw [(hat b hb).1]; exact mem_nbr_comm hok hv)
  have f1 := Fine.of (hat a ha).2.1
  have f2 := Fine.of (hat b hb).2.1
  have l1 := nbr_len ps ss[a].me
  have l2 := nbr_len ps ss[b].me
  have e1 := f1.edges
  have e2 := f2.edges
  have sb := f1.sid _ (List.getElem_mem hi)
  have hL : leftL ps ss a b = (leftI ss[a].edges[i].base ss[b].edges[j].seen 0 ss[a].edges[i].out).map Prod.snd := by
    unfold leftL
    rw [at0_at (by simpa using ha), at0_at (by simpa using hb)]
    simp only [Int.toNat_natCast, o1, o2, hf, hv, decide_true, Bool.and_true, if_true]
  obtain ⟨xs, hxs⟩ : ∃ xs, leftI ss[a].edges[i].base ss[b].edges[j].seen 0 ss[a].edges[i].out = xs := ⟨_, rfl⟩
  have hxl : xs.length ≤ 1024 := by have := leftI_len ss[a].edges[i].base ss[b].edges[j].seen 0 ss[a].edges[i].out; have := goodE_len g1; rw [hxs] at *; omega
  rw [hL, hxs]
  refine CallK.of_awpH mixed (fun _ => []) (fn := Try.f24) (by kernel_rfl) rfl (by kernel_rfl) (by show 4 ≤ _; decide) ?_
  rw [awp_assoc, awp_assoc]
  refine awp_cut (fun s => s.slots 0 = treeV ps ∧ s.slots 1 = .l ex 6 (ss.map encS) ∧ s.slots 2 = .int .i64 a ∧ s.slots 3 = .int .i64 b ∧ s.slots 9 = .pt ⟨24, 9, h.cnt 24 9⟩ 0 0 0 ∧ s.hp.con ⟨24, 9, h.cnt 24 9⟩ = .blk [.l true 0 []] ∧ Keeps h s.hp) ?_ ?_
  · repeat' first
      | (with_reducible refine CondX.dec (fun c => ?_) (fun c => ?_)) <;> try (exfalso; omega)
      | (with_reducible refine CondX.beq (fun c => ?_) (fun c => ?_)) <;> try (exfalso; omega)
      | (with_reducible refine CondX.bne (fun c => ?_) (fun c => ?_)) <;> try (exfalso; omega)
      | (with_reducible refine CondX.bool (fun c => ?_) (fun c => ?_)) <;> try (exfalso; omega)
      | ((with_reducible refine CallX.id ?_); first | refine CallX.pure (Fit_spec ps ss ex (by omega) hs) ?_ | refine CallX.pure (Neighbours_spec ps a (by omega)) ?_ | refine CallX.pure (Contains_int_spec (nbr ps a) false b (by omega)) ?_)
      | ((with_reducible refine PureX.id ?_); first | refine PureX.of (Fit_spec ps ss ex (by omega) hs) ?_ | refine PureX.of (Neighbours_spec ps a (by omega)) ?_ | refine PureX.of (Contains_int_spec (nbr ps a) false b (by omega)) ?_)
      | simp only [go_sem, I_eq, I_cells, hf, hv, decide_true, encE, Nat.reduceAdd, Nat.reduceBEq, Nat.reduceEqDiff, Nat.reduceLeDiff, Nat.reduceLT, Nat.reduceSub]
      | simp (disch := omega) only [wrap_in, toNat_succ, toNat_pred, Int.toNat_natCast]
      | with_reducible refine And.intro (by omega) ?_
      | with_reducible refine exI (by omega) ?_
      | fail
    ((repeat first | with_reducible apply Keeps.alloc | (with_reducible refine Keeps.set ?_ ?hL _; case hL => first | assumption | exact Hp.ok _ _ (by simp) | exact Keeps.new (by assumption) _ _)); first | assumption | exact Keeps.refl _)
  rintro s ⟨g0, g1', g2', g3, g9, k9, gK⟩
  rw [← awp_assoc]
  refine awp_cut (fun s => s.slots 9 = .pt ⟨24, 9, h.cnt 24 9⟩ 0 0 0 ∧ s.slots 33 = .fn (.func 86) [.ip [.bool true], .ip [.l false 5 (ss[a].edges[i].out.map encM)], .ip (encE ss[a].edges[i]).cells, .ip [.int .i64 ss[b].edges[j].seen]] ∧ s.hp.con ⟨24, 9, h.cnt 24 9⟩ = .blk [.l true 0 []] ∧ Keeps h s.hp) ?_ ?_
  · repeat' first
      | (with_reducible refine CondX.dec (fun c => ?_) (fun c => ?_)) <;> try (exfalso; omega)
      | (with_reducible refine CondX.beq (fun c => ?_) (fun c => ?_)) <;> try (exfalso; omega)
      | (with_reducible refine CondX.bne (fun c => ?_) (fun c => ?_)) <;> try (exfalso; omega)
      | (with_reducible refine CondX.bool (fun c => ?_) (fun c => ?_)) <;> try (exfalso; omega)
      | ((with_reducible refine CallX.id ?_); first | refine CallX.pure (side_spec ss ex a i b ha s1 hi (by omega)) ?_ | refine CallX.pure (side_spec ss ex b j a hb s2 hj (by omega)) ?_ | refine CallX.pure (half_Left_spec ss[a].edges[i] ss[b].edges[j].seen g1) ?_)
      | simp only [go_sem, I_eq, I_cells, g0, g1', g2', g3, g9, k9, gK, encE_cells, encE, Nat.reduceAdd, Nat.reduceBEq, Nat.reduceEqDiff, Nat.reduceLeDiff, Nat.reduceLT, Nat.reduceSub]
      | simp (disch := omega) only [wrap_in, toNat_succ, toNat_pred, Int.toNat_natCast]
      | with_reducible refine And.intro (by omega) ?_
      | with_reducible refine exI (by omega) ?_
      | fail
  clear g0 g1' g2' g3 g9 k9 gK
  rintro t ⟨g9, g33, k9, gK⟩
  rw [encE_cells] at g33
  repeat' first
    | (with_reducible refine CondX.dec (fun c => ?_) (fun c => ?_)) <;> try (exfalso; omega)
    | (with_reducible refine CondX.beq (fun c => ?_) (fun c => ?_)) <;> try (exfalso; omega)
    | (with_reducible refine CondX.bne (fun c => ?_) (fun c => ?_)) <;> try (exfalso; omega)
    | (with_reducible refine CondX.bool (fun c => ?_) (fun c => ?_)) <;> try (exfalso; omega)
    | simp only [go_sem, I_eq, I_cells, g9, g33, Nat.reduceAdd, Nat.reduceBEq, Nat.reduceEqDiff, Nat.reduceLeDiff, Nat.reduceLT, Nat.reduceSub]
    | simp (disch := omega) only [wrap_in, toNat_succ, toNat_pred, Int.toNat_natCast]
    | with_reducible refine And.intro (by omega) ?_
    | with_reducible refine exI (by omega) ?_
    | fail
  have it := Left_iter ss[a].edges[i] true ss[b].edges[j].seen (fun _ => sb)
  rw [encE_cells, if_pos rfl, hxs] at it
  refine iter_rule (fid := 24) (ps := [34, 35]) (T := fun _ => []) mixed it (by decide) rfl (of_decide_eq_true (by kernel_rfl)) (by kernel_rfl) (by kernel_rfl) (fun x hx => by obtain ⟨y, _, rfl⟩ := List.mem_map.1 hx; rfl)
    (fun j q => ∃ v, q.con ⟨24, 9, h.cnt 24 9⟩ = .blk [v] ∧ Acc h q 5 v (((xs.take j).map Prod.snd).map encM) ∧ (∀ L, v = .os L → L.f = 24 ∧ L.s < 1000000) ∧ Keeps h q) (fun _ _ => False) ?_ (fun _ _ _ hf => hf.elim) ?_ ?_ ?_ (fun _ _ _ hf => hf.elim) _
  · rintro j q q' ⟨v, k9, ga, gl, gk⟩ hs
    exact ⟨v, by rw [hs _ (.inr ⟨by simp, nlp (show 9 < 1000000 by decide)⟩), k9], hs.acc ga (fun L hL => ⟨by rw [(gl L hL).1]; simp, nlp (gl L hL).2⟩), gl, hs.keeps gK gk⟩
  · exact ⟨_, k9, .nil, (fun L hL => by cases hL), gK⟩
  · rintro j' hj q ⟨v, k9, ga, gl, gk⟩
    rw [List.length_map] at hj
    rw [List.getElem_map, List.take_succ_eq_append_getElem hj, List.map_append, List.map_append]
    repeat' first
      | (with_reducible refine CondX.dec (fun c => ?_) (fun c => ?_)) <;> try (exfalso; omega)
      | (with_reducible refine CondX.beq (fun c => ?_) (fun c => ?_)) <;> try (exfalso; omega)
      | (with_reducible refine CondX.bne (fun c => ?_) (fun c => ?_)) <;> try (exfalso; omega)
      | (with_reducible refine CondX.bool (fun c => ?_) (fun c => ?_)) <;> try (exfalso; omega)
      | simp only [go_sem, I_eq, I_cells, g9, k9, leftV, encM, encM_cells, Nat.reduceAdd, Nat.reduceBEq, Nat.reduceEqDiff, Nat.reduceLeDiff, Nat.reduceLT, Nat.reduceSub]
      | simp (disch := omega) only [wrap_in, toNat_succ, toNat_pred, Int.toNat_natCast]
      | with_reducible refine And.intro (by omega) ?_
      | with_reducible refine exI (by omega) ?_
      | fail
    refine (ga.alloc _ _ _).app (by ((repeat first | with_reducible apply Keeps.alloc | (with_reducible refine Keeps.set ?_ ?hL _; case hL => first | assumption | exact Hp.ok _ _ (by simp) | exact Keeps.new (by assumption) _ _)); first | assumption | exact Keeps.refl _)) (by simp; omega) (by simp; omega) (by decide) fun H' v' a' kp' fr1 fr2 ev => ?_
    have f9 := fr2 ⟨24, 9, h.cnt 24 9⟩ [v] (by simp only [go_sem, I_eq, I_cells, k9, Nat.reduceAdd, Nat.reduceBEq, Nat.reduceEqDiff, Nat.reduceLeDiff, Nat.reduceLT, Nat.reduceSub])
    have kf := KeepsF.app ((KeepsF.refl [86] q).alloc _ _ _) fr1 (fun L hL => by rw [(gl L hL).1]; simp)
    subst ev
    repeat' first
      | (with_reducible refine CondX.dec (fun c => ?_) (fun c => ?_)) <;> try (exfalso; omega)
      | (with_reducible refine CondX.beq (fun c => ?_) (fun c => ?_)) <;> try (exfalso; omega)
      | (with_reducible refine CondX.bne (fun c => ?_) (fun c => ?_)) <;> try (exfalso; omega)
      | (with_reducible refine CondX.bool (fun c => ?_) (fun c => ?_)) <;> try (exfalso; omega)
      | simp only [go_sem, I_eq, I_cells, g9, f9, Nat.reduceAdd, Nat.reduceBEq, Nat.reduceEqDiff, Nat.reduceLeDiff, Nat.reduceLT, Nat.reduceSub]
      | simp (disch := omega) only [wrap_in, toNat_succ, toNat_pred, Int.toNat_natCast]
      | with_reducible refine And.intro (by omega) ?_
      | with_reducible refine exI (by omega) ?_
      | fail
    exact ⟨kf.set (by simp) _, _, rfl, a'.mono (fun L hL => by cases hL; simp only [go_sem, I_eq, I_cells, Nat.reduceAdd, Nat.reduceBEq, Nat.reduceEqDiff, Nat.reduceLeDiff, Nat.reduceLT, Nat.reduceSub]), (fun L hL => by cases hL; simp), by ((repeat first | with_reducible apply Keeps.alloc | (with_reducible refine Keeps.set ?_ ?hL _; case hL => first | assumption | exact Hp.ok _ _ (by simp) | exact Keeps.new (by assumption) _ _)); first | assumption | exact Keeps.refl _)⟩
  · rintro q ⟨v, k9, ga, gl, gk⟩
    rw [List.length_map, List.take_length] at ga
    repeat' first
      | (with_reducible refine CondX.dec (fun c => ?_) (fun c => ?_)) <;> try (exfalso; omega)
      | (with_reducible refine CondX.beq (fun c => ?_) (fun c => ?_)) <;> try (exfalso; omega)
      | (with_reducible refine CondX.bne (fun c => ?_) (fun c => ?_)) <;> try (exfalso; omega)
      | (with_reducible refine CondX.bool (fun c => ?_) (fun c => ?_)) <;> try (exfalso; omega)
      | simp only [go_sem, I_eq, I_cells, g9, k9, Nat.reduceAdd, Nat.reduceBEq, Nat.reduceEqDiff, Nat.reduceLeDiff, Nat.reduceLT, Nat.reduceSub]
      | simp (disch := omega) only [wrap_in, toNat_succ, toNat_pred, Int.toNat_natCast]
      | with_reducible refine And.intro (by omega) ?_
      | with_reducible refine exI (by omega) ?_
      | fail
    exact ⟨ga, gk⟩
theorem Left_own (h : Hp) (ps : List Int) (ss : List Nst) (ex : Bool) (u v : Int) (hok : TreeOk ps) (hs : ∀ s ∈ ss, Sized s) : CallK Try.prog 24 [treeV ps, .l ex 6 (ss.map encS), .int .i64 u, .int .i64 v] h (OwnR 5 ((leftL ps ss u v).map encM) h) := by
  have hps := hok.len
  cases hc : fitB ps ss && decide (v ∈ nbr ps u)
  · rw [show leftL ps ss u v = [] by unfold leftL; rw [hc]; rfl]
    exact Left_none h ps ss ex u v (by omega) hs hc
  · simp only [Bool.and_eq_true, decide_eq_true_eq] at hc
    have hm := (mem_nbr hok u v).1 hc.2
    have h1 := hm.1
    have h2 := hm.2.1
    simp only [hasN, decide_eq_true_eq] at h1 h2
    obtain ⟨a, rfl⟩ : ∃ a : Nat, u = a := ⟨u.toNat, by omega⟩
    obtain ⟨b, rfl⟩ : ∃ b : Nat, v = b := ⟨v.toNat, by omega⟩
    exact Left_some h ps ss ex a b hok hs hc.1 hc.2
theorem Left_spec (ps : List Int) (ss : List Nst) (ex : Bool) (u v : Int) (hok : TreeOk ps) (hs : ∀ s ∈ ss, Sized s) : PureF Try.prog 24 [treeV ps, .l ex 6 (ss.map encS), .int .i64 u, .int .i64 v] (rowM (leftL ps ss u v)) :=
  PureF.ofOwn (fun h => Left_own h ps ss ex u v hok hs) (M_lfs _)
end Go.Proofs.Ytmajndgdfmnchaa
/- The document's messages that are left. -/
namespace Go.Gh
def seenR : Int → Int → List Sid → Int
  | _, s, [] => s
  | u, s, e :: r => seenR u (if e.peer = u then e.seen else s) r
def outR (seen v : Int) : List Sid → List Msg
  | [] => []
  | e :: r => (if e.peer = v then (leftI e.base seen 0 e.out).map Prod.snd else []) ++ outR seen v r
def leftR (ps : List Int) (ss : List Nst) (u v : Int) : List Msg :=
  if hasN ps u && hasN ps v && nearB ps u v then outR (seenR u 0 (at0 ss v).edges) v (at0 ss u).edges else []
theorem outR_len (seen v : Int) (es : List Sid) (hs : ∀ e ∈ es, e.out.length ≤ 1024) : (outR seen v es).length ≤ es.length * 1024 := by
  induction es with
  | nil => simp [outR]
  | cons e r ih =>
    have h1 := ih (fun x hx => hs x (List.mem_cons_of_mem _ hx))
    have h2 := hs e List.mem_cons_self
    have h3 := leftI_len e.base seen 0 e.out
    rw [outR, List.length_append, List.length_cons]
    split
    · rw [List.length_map, Nat.add_mul]; omega
    · rw [List.length_nil, Nat.add_mul]; omega
structure EdgeOk (s : Nst) : Prop where
  len : s.edges.length ≤ 32
  sid : ∀ e ∈ s.edges, SidB e
end Go.Gh
namespace Go.Proofs.Ytmajndgdfmnchaa
open Go Go.T Go.Gh Go.Proofs
set_option linter.unusedSimpArgs false
set_option maxRecDepth 10000
set_option maxHeartbeats 4000000
theorem ref_Left_none (h : Hp) (ps : List Int) (e1 e2 : Bool) (ss : List Nst) (u v : Int) (hn : (hasN ps u && hasN ps v && nearB ps u v) = false) : CallK Try.prog 27 [.l e1 1 (ps.map I), .l e2 6 (ss.map encS), .int .i64 u, .int .i64 v] h (OwnR 5 [] h) := by
  refine CallK.of_awpH mixed (fun _ => []) (fn := Try.f27) (by kernel_rfl) rfl (by kernel_rfl) (by show 4 ≤ _; decide) ?_
  rw [awp_assoc, awp_assoc]
  refine awp_cut (fun _ => False) ?_ (fun s hs => hs.elim)
  by_cases hu : hasN ps u = true
  · by_cases hv : hasN ps v = true
    · rw [hu, hv] at hn
      simp only [Bool.true_and] at hn
      have hu' := hu
      have hv' := hv
      simp only [hasN, decide_eq_true_eq] at hu' hv'
      repeat' first
        | (with_reducible refine CondX.dec (fun c => ?_) (fun c => ?_)) <;> try (exfalso; omega)
        | (with_reducible refine CondX.beq (fun c => ?_) (fun c => ?_)) <;> try (exfalso; omega)
        | (with_reducible refine CondX.bne (fun c => ?_) (fun c => ?_)) <;> try (exfalso; omega)
        | (with_reducible refine CondX.bool (fun c => ?_) (fun c => ?_)) <;> try (exfalso; omega)
        | ((with_reducible refine CallX.id ?_); first | refine CallX.pure (ref_Near_spec ps e1 u v hu hv) ?_)
        | ((with_reducible refine PureX.id ?_); first | refine PureX.of (ref_Near_spec ps e1 u v hu hv) ?_)
        | simp only [go_sem, I_eq, I_cells, hn, Nat.reduceAdd, Nat.reduceBEq, Nat.reduceEqDiff, Nat.reduceLeDiff, Nat.reduceLT, Nat.reduceSub]
        | simp (disch := omega) only [wrap_in, toNat_succ, toNat_pred, Int.toNat_natCast]
        | with_reducible refine And.intro (by omega) ?_
        | with_reducible refine exI (by omega) ?_
        | fail
      all_goals first | exact ⟨.nil, Keeps.refl h⟩ | (exfalso; omega)
    · simp only [hasN, decide_eq_true_eq] at hu hv
      repeat' first
        | (with_reducible refine CondX.dec (fun c => ?_) (fun c => ?_)) <;> try (exfalso; omega)
        | (with_reducible refine CondX.beq (fun c => ?_) (fun c => ?_)) <;> try (exfalso; omega)
        | (with_reducible refine CondX.bne (fun c => ?_) (fun c => ?_)) <;> try (exfalso; omega)
        | (with_reducible refine CondX.bool (fun c => ?_) (fun c => ?_)) <;> try (exfalso; omega)
        | simp only [go_sem, I_eq, I_cells, Nat.reduceAdd, Nat.reduceBEq, Nat.reduceEqDiff, Nat.reduceLeDiff, Nat.reduceLT, Nat.reduceSub]
        | simp (disch := omega) only [wrap_in, toNat_succ, toNat_pred, Int.toNat_natCast]
        | with_reducible refine And.intro (by omega) ?_
        | with_reducible refine exI (by omega) ?_
        | fail
      all_goals first | exact ⟨.nil, Keeps.refl h⟩ | (exfalso; omega)
  · simp only [hasN, decide_eq_true_eq] at hu
    repeat' first
      | (with_reducible refine CondX.dec (fun c => ?_) (fun c => ?_)) <;> try (exfalso; omega)
      | (with_reducible refine CondX.beq (fun c => ?_) (fun c => ?_)) <;> try (exfalso; omega)
      | (with_reducible refine CondX.bne (fun c => ?_) (fun c => ?_)) <;> try (exfalso; omega)
      | (with_reducible refine CondX.bool (fun c => ?_) (fun c => ?_)) <;> try (exfalso; omega)
      | simp only [go_sem, I_eq, I_cells, Nat.reduceAdd, Nat.reduceBEq, Nat.reduceEqDiff, Nat.reduceLeDiff, Nat.reduceLT, Nat.reduceSub]
      | simp (disch := omega) only [wrap_in, toNat_succ, toNat_pred, Int.toNat_natCast]
      | with_reducible refine And.intro (by omega) ?_
      | with_reducible refine exI (by omega) ?_
      | fail
    all_goals first | exact ⟨.nil, Keeps.refl h⟩ | (exfalso; omega)
theorem ref_Left_some (h : Hp) (ps : List Int) (e1 e2 : Bool) (ss : List Nst) (a b : Nat) (hl : ss.length = ps.length) (hs : ∀ s ∈ ss, EdgeOk s) (hu : hasN ps a = true) (hv : hasN ps b = true) (hn : nearB ps a b = true) : CallK Try.prog 27 [.l e1 1 (ps.map I), .l e2 6 (ss.map encS), .int .i64 a, .int .i64 b] h (OwnR 5 ((leftR ps ss a b).map encM) h) := by
  have hu' := hu
  have hv' := hv
  simp only [hasN, decide_eq_true_eq] at hu' hv'
  have ha : a < ss.length := by omega
  have hb : b < ss.length := by omega
  have oa := hs _ (List.getElem_mem ha)
  have ob := hs _ (List.getElem_mem hb)
  have la := oa.len
  have lb := ob.len
  obtain ⟨seen, hseen⟩ : ∃ x, seenR a 0 ss[b].edges = x := ⟨_, rfl⟩
  have hL : leftR ps ss a b = outR seen b ss[a].edges := by
    unfold leftR
    rw [hu, hv, hn, at0_at (by simpa using hb), at0_at (by simpa using ha)]
    simp only [Int.toNat_natCast, Bool.and_true, if_true, hseen]
  rw [hL]
  refine CallK.of_awpH mixed (fun _ => []) (fn := Try.f27) (by kernel_rfl) rfl (by kernel_rfl) (by show 4 ≤ _; decide) ?_
  rw [awp_assoc, awp_assoc, awp_assoc]
  refine awp_cut (fun s => s.slots 1 = .l e2 6 (ss.map encS) ∧ s.slots 2 = .int .i64 a ∧ s.slots 3 = .int .i64 b ∧ s.slots 9 = .l true 0 [] ∧ s.slots 10 = .int .i64 0 ∧ s.hp = h) ?_ ?_
  · repeat' first
      | (with_reducible refine CondX.dec (fun c => ?_) (fun c => ?_)) <;> try (exfalso; omega)
      | (with_reducible refine CondX.beq (fun c => ?_) (fun c => ?_)) <;> try (exfalso; omega)
      | (with_reducible refine CondX.bne (fun c => ?_) (fun c => ?_)) <;> try (exfalso; omega)
      | (with_reducible refine CondX.bool (fun c => ?_) (fun c => ?_)) <;> try (exfalso; omega)
      | ((with_reducible refine CallX.id ?_); first | refine CallX.pure (ref_Near_spec ps e1 a b hu hv) ?_)
      | ((with_reducible refine PureX.id ?_); first | refine PureX.of (ref_Near_spec ps e1 a b hu hv) ?_)
      | simp only [go_sem, I_eq, I_cells, hn, Nat.reduceAdd, Nat.reduceBEq, Nat.reduceEqDiff, Nat.reduceLeDiff, Nat.reduceLT, Nat.reduceSub]
      | simp (disch := omega) only [wrap_in, toNat_succ, toNat_pred, Int.toNat_natCast]
      | with_reducible refine And.intro (by omega) ?_
      | with_reducible refine exI (by omega) ?_
      | fail
  rintro s ⟨g1, g2', g3, g9, g10, gH⟩
  repeat' first
    | (with_reducible refine CondX.dec (fun c => ?_) (fun c => ?_)) <;> try (exfalso; omega)
    | (with_reducible refine CondX.beq (fun c => ?_) (fun c => ?_)) <;> try (exfalso; omega)
    | (with_reducible refine CondX.bne (fun c => ?_) (fun c => ?_)) <;> try (exfalso; omega)
    | (with_reducible refine CondX.bool (fun c => ?_) (fun c => ?_)) <;> try (exfalso; omega)
    | simp only [go_sem, I_eq, I_cells, g1, g2', g3, g9, g10, gH, encS_cells, Nat.reduceAdd, Nat.reduceBEq, Nat.reduceEqDiff, Nat.reduceLeDiff, Nat.reduceLT, Nat.reduceSub]
    | simp (disch := omega) only [wrap_in, toNat_succ, toNat_pred, Int.toNat_natCast]
    | with_reducible refine And.intro (by omega) ?_
    | with_reducible refine exI (by omega) ?_
    | fail
  refine awp_count 49 48 ss[b].edges.length (by omega) (fun i t => t.slots 1 = .l e2 6 (ss.map encS) ∧ t.slots 2 = .int .i64 a ∧ t.slots 3 = .int .i64 b ∧ t.slots 9 = .l true 0 [] ∧ t.slots 47 = .l false 4 (ss[b].edges.map encE) ∧ Keeps h t.hp ∧ ∃ x, t.slots 10 = .int .i64 x ∧ seenR a x (ss[b].edges.drop i) = seen) ?_ ?_ ?_ ?_ ?_
  · simp only [go_sem, I_eq, I_cells, Nat.reduceAdd, Nat.reduceBEq, Nat.reduceEqDiff, Nat.reduceLeDiff, Nat.reduceLT, Nat.reduceSub]
  · simp only [go_sem, I_eq, I_cells, Nat.reduceAdd, Nat.reduceBEq, Nat.reduceEqDiff, Nat.reduceLeDiff, Nat.reduceLT, Nat.reduceSub]
  · simp only [go_sem, I_eq, I_cells, g1, g2', g3, g9, g10, gH, Nat.reduceAdd, Nat.reduceBEq, Nat.reduceEqDiff, Nat.reduceLeDiff, Nat.reduceLT, Nat.reduceSub]
    first
      | exact ⟨Keeps.refl h, 0, rfl, hseen⟩
      | exact ⟨0, rfl, hseen⟩
  · clear g1 g2' g3 g9 g10 gH
    rintro i t hlt d2 hw g49 g48 ⟨g1, g2', g3, g9, g47, gK, x, g10, hx⟩
    rw [drop_cons hlt, seenR] at hx
    repeat' first
      | (with_reducible refine CondX.dec (fun c => ?_) (fun c => ?_)) <;> try (exfalso; omega)
      | (with_reducible refine CondX.beq (fun c => ?_) (fun c => ?_)) <;> try (exfalso; omega)
      | (with_reducible refine CondX.bne (fun c => ?_) (fun c => ?_)) <;> try (exfalso; omega)
      | (with_reducible refine CondX.bool (fun c => ?_) (fun c => ?_)) <;> try (exfalso; omega)
      | simp only [go_sem, I_eq, I_cells, g1, g2', g3, g9, g47, g10, g48, g49, d2, hw, encE_cells, Nat.reduceAdd, Nat.reduceBEq, Nat.reduceEqDiff, Nat.reduceLeDiff, Nat.reduceLT, Nat.reduceSub]
      | simp (disch := omega) only [wrap_in, toNat_succ, toNat_pred, Int.toNat_natCast]
      | with_reducible refine And.intro (by omega) ?_
      | with_reducible refine exI (by omega) ?_
      | fail
    · exact ⟨by ((repeat first | with_reducible apply Keeps.alloc | (with_reducible refine Keeps.set ?_ ?hL _; case hL => first | assumption | exact Hp.ok _ _ (by simp) | exact Keeps.new (by assumption) _ _)); first | assumption | exact Keeps.refl _), _, rfl, by rw [← hx, if_pos c]⟩
    · exact ⟨by ((repeat first | with_reducible apply Keeps.alloc | (with_reducible refine Keeps.set ?_ ?hL _; case hL => first | assumption | exact Hp.ok _ _ (by simp) | exact Keeps.new (by assumption) _ _)); first | assumption | exact Keeps.refl _), _, rfl, by rw [← hx, if_neg c]⟩
  · clear g1 g2' g3 g9 g10 gH
    rintro t d2 g49 g48 ⟨g1, g2', g3, g9, g47, gK, x, g10, hx⟩
    rw [List.drop_length, seenR] at hx
    obtain ⟨tot, htot⟩ : ∃ x, outR seen b ss[a].edges = x := ⟨_, rfl⟩
    have htl : tot.length ≤ 32768 := by
      have h1 := outR_len seen b ss[a].edges (fun e he => (oa.sid e he).out)
      rw [htot] at h1; omega
    rw [htot]
    rw [hx] at g10
    repeat' first
      | (with_reducible refine CondX.dec (fun c => ?_) (fun c => ?_)) <;> try (exfalso; omega)
      | (with_reducible refine CondX.beq (fun c => ?_) (fun c => ?_)) <;> try (exfalso; omega)
      | (with_reducible refine CondX.bne (fun c => ?_) (fun c => ?_)) <;> try (exfalso; omega)
      | (with_reducible refine CondX.bool (fun c => ?_) (fun c => ?_)) <;> try (exfalso; omega)
      | simp only [go_sem, I_eq, I_cells, g1, g2', g3, g9, g47, g10, g48, g49, d2, encS_cells, Nat.reduceAdd, Nat.reduceBEq, Nat.reduceEqDiff, Nat.reduceLeDiff, Nat.reduceLT, Nat.reduceSub]
      | simp (disch := omega) only [wrap_in, toNat_succ, toNat_pred, Int.toNat_natCast]
      | with_reducible refine And.intro (by omega) ?_
      | with_reducible refine exI (by omega) ?_
      | fail
    refine awp_count 66 65 ss[a].edges.length (by omega) (fun i t => t.slots 3 = .int .i64 b ∧ t.slots 10 = .int .i64 seen ∧ t.slots 64 = .l false 4 (ss[a].edges.map encE) ∧ Keeps h t.hp ∧ ∃ v ms, t.slots 9 = v ∧ Acc h t.hp 5 v (ms.map encM) ∧ (∀ L, v = .os L → L.f = 27 ∧ L.s = 92) ∧ ms ++ outR seen b (ss[a].edges.drop i) = tot) ?_ ?_ ?_ ?_ ?_
    · simp only [go_sem, I_eq, I_cells, Nat.reduceAdd, Nat.reduceBEq, Nat.reduceEqDiff, Nat.reduceLeDiff, Nat.reduceLT, Nat.reduceSub]
    · simp only [go_sem, I_eq, I_cells, Nat.reduceAdd, Nat.reduceBEq, Nat.reduceEqDiff, Nat.reduceLeDiff, Nat.reduceLT, Nat.reduceSub]
    · simp only [go_sem, I_eq, I_cells, g3, g10, g9, Nat.reduceAdd, Nat.reduceBEq, Nat.reduceEqDiff, Nat.reduceLeDiff, Nat.reduceLT, Nat.reduceSub]
      first
        | exact ⟨gK, _, [], rfl, .nil, (fun L hL => by cases hL), htot⟩
        | exact ⟨_, [], rfl, .nil, (fun L hL => by cases hL), htot⟩
    · clear g1 g2' g3 g9 g47 g10 g48 g49 d2 gK
      rintro i t hlt d2 hw g66 g65 ⟨g3, g10, g64, gK, v, ms, g9, ga, gl, hd⟩
      rw [drop_cons hlt, outR] at hd
      obtain ⟨rest, hrest⟩ : ∃ x, outR seen b (ss[a].edges.drop (i + 1)) = x := ⟨_, rfl⟩
      rw [hrest] at hd
      have sb := oa.sid _ (List.getElem_mem hlt)
      have sb1 := sb.base
      have sb2 := sb.out
      repeat' first
        | (with_reducible refine CondX.dec (fun c => ?_) (fun c => ?_)) <;> try (exfalso; omega)
        | (with_reducible refine CondX.beq (fun c => ?_) (fun c => ?_)) <;> try (exfalso; omega)
        | (with_reducible refine CondX.bne (fun c => ?_) (fun c => ?_)) <;> try (exfalso; omega)
        | (with_reducible refine CondX.bool (fun c => ?_) (fun c => ?_)) <;> try (exfalso; omega)
        | simp only [go_sem, I_eq, I_cells, g3, g10, g64, g9, g65, g66, d2, hw, encE_cells, Nat.reduceAdd, Nat.reduceBEq, Nat.reduceEqDiff, Nat.reduceLeDiff, Nat.reduceLT, Nat.reduceSub]
        | simp (disch := omega) only [wrap_in, toNat_succ, toNat_pred, Int.toNat_natCast]
        | with_reducible refine And.intro (by omega) ?_
        | with_reducible refine exI (by omega) ?_
        | fail
      · rw [if_neg c, List.nil_append] at hd
        exact ⟨by ((repeat first | with_reducible apply Keeps.alloc | (with_reducible refine Keeps.set ?_ ?hL _; case hL => first | assumption | exact Hp.ok _ _ (by simp) | exact Keeps.new (by assumption) _ _)); first | assumption | exact Keeps.refl _), v, ms, rfl, ga.alloc _ _ _, gl, by rw [hrest]; exact hd⟩
      rw [if_pos c] at hd
      obtain ⟨e, he⟩ : ∃ x, ss[a].edges[i] = x := ⟨_, rfl⟩
      rw [he] at hd sb sb1 sb2
      simp only [he]
      refine awp_count 77 76 e.out.length (by omega) (fun j t => t.slots 3 = .int .i64 b ∧ t.slots 10 = .int .i64 seen ∧ t.slots 64 = .l false 4 (ss[a].edges.map encE) ∧ t.slots 65 = .int .i64 ss[a].edges.length ∧ t.slots 66 = .int .i64 i ∧ t.slots 75 = .l false 5 (e.out.map encM) ∧ Keeps h t.hp ∧ ∃ k14 v ms, t.slots 14 = .pt ⟨27, 14, k14⟩ 0 0 0 ∧ t.hp.con ⟨27, 14, k14⟩ = .blk (encE e).cells ∧ t.slots 9 = v ∧ Acc h t.hp 5 v (ms.map encM) ∧ (∀ L, v = .os L → L.f = 27 ∧ L.s = 92) ∧ ms ++ ((leftI e.base seen j (e.out.drop j)).map Prod.snd ++ rest) = tot) ?_ ?_ ?_ ?_ ?_
      · simp only [go_sem, I_eq, I_cells, Nat.reduceAdd, Nat.reduceBEq, Nat.reduceEqDiff, Nat.reduceLeDiff, Nat.reduceLT, Nat.reduceSub]
      · simp only [go_sem, I_eq, I_cells, Nat.reduceAdd, Nat.reduceBEq, Nat.reduceEqDiff, Nat.reduceLeDiff, Nat.reduceLT, Nat.reduceSub]
      · simp only [go_sem, I_eq, I_cells, g3, g10, g64, g65, g66, encE_cells, Nat.reduceAdd, Nat.reduceBEq, Nat.reduceEqDiff, Nat.reduceLeDiff, Nat.reduceLT, Nat.reduceSub]
        exact ⟨by ((repeat first | with_reducible apply Keeps.alloc | (with_reducible refine Keeps.set ?_ ?hL _; case hL => first | assumption | exact Hp.ok _ _ (by simp) | exact Keeps.new (by assumption) _ _)); first | assumption | exact Keeps.refl _), _, v, ms, rfl, by simp only [go_sem, I_eq, I_cells, Nat.reduceAdd, Nat.reduceBEq, Nat.reduceEqDiff, Nat.reduceLeDiff, Nat.reduceLT, Nat.reduceSub], g9, ga.alloc _ _ _, gl, hd⟩
      · clear g3 g10 g64 g9 g65 g66 d2 ga gl gK hd
        rintro j t hlj d2 hw2 g77 g76 ⟨g3, g10, g64, g65, g66, g75, gK, k14, v, ms, g14, k14', g9, ga, gl, hd⟩
        rw [encE_cells] at k14'
        rw [drop_cons hlj, leftI_cons] at hd
        have hw3 : IntKind.i64.wrap (e.base + 1) = e.base + 1 := IntWalk.i64_in _ (by omega)
        have hw4 : IntKind.i64.wrap (e.base + 1 + j) = e.base + 1 + j := IntWalk.i64_in _ (by omega)
        repeat' first
          | (with_reducible refine CondX.dec (fun c => ?_) (fun c => ?_)) <;> try (exfalso; omega)
          | (with_reducible refine CondX.beq (fun c => ?_) (fun c => ?_)) <;> try (exfalso; omega)
          | (with_reducible refine CondX.bne (fun c => ?_) (fun c => ?_)) <;> try (exfalso; omega)
          | (with_reducible refine CondX.bool (fun c => ?_) (fun c => ?_)) <;> try (exfalso; omega)
          | simp only [go_sem, I_eq, I_cells, g3, g10, g64, g65, g66, g75, g14, k14', g9, g76, g77, d2, hw, hw2, hw3, hw4, encE_cells, encM, encM_cells, Nat.reduceAdd, Nat.reduceBEq, Nat.reduceEqDiff, Nat.reduceLeDiff, Nat.reduceLT, Nat.reduceSub]
          | simp (disch := omega) only [wrap_in, toNat_succ, toNat_pred, Int.toNat_natCast]
          | with_reducible refine And.intro (by omega) ?_
          | with_reducible refine exI (by omega) ?_
          | fail
        · rw [if_neg (by omega), List.map_cons] at hd
          have hln := congrArg List.length hd
          simp only [List.length_append, List.length_cons] at hln
          refine (ga.alloc _ _ _).app (by ((repeat first | with_reducible apply Keeps.alloc | (with_reducible refine Keeps.set ?_ ?hL _; case hL => first | assumption | exact Hp.ok _ _ (by simp) | exact Keeps.new (by assumption) _ _)); first | assumption | exact Keeps.refl _)) (by simp only [List.length_map, List.length_cons, List.length_nil]; omega) (by simp only [List.length_map, List.length_cons, List.length_nil]; omega) (by decide) fun H' v' a' kp' fr1 fr2 ev => ?_
          have f14 := fr2 ⟨27, 14, k14⟩ (encE e).cells (by simp only [go_sem, I_eq, I_cells, k14', encE_cells, Nat.reduceAdd, Nat.reduceBEq, Nat.reduceEqDiff, Nat.reduceLeDiff, Nat.reduceLT, Nat.reduceSub])
          rw [encE_cells] at f14
          subst ev
          exact ⟨kp', k14, _, ms ++ [e.out[j]], rfl, f14, rfl, (by rw [List.map_append]; exact a'), (fun L hL => by cases hL; exact ⟨rfl, rfl⟩), (by rw [← hd]; simp)⟩
        · rw [if_pos (by omega)] at hd
          exact ⟨by ((repeat first | with_reducible apply Keeps.alloc | (with_reducible refine Keeps.set ?_ ?hL _; case hL => first | assumption | exact Hp.ok _ _ (by simp) | exact Keeps.new (by assumption) _ _)); first | assumption | exact Keeps.refl _), k14, v, ms, rfl, by simp only [go_sem, I_eq, I_cells, k14', Nat.reduceAdd, Nat.reduceBEq, Nat.reduceEqDiff, Nat.reduceLeDiff, Nat.reduceLT, Nat.reduceSub], rfl, ga.alloc _ _ _, gl, hd⟩
      · clear g3 g10 g64 g9 g65 g66 d2 ga gl gK hd
        rintro t d2 g77 g76 ⟨g3, g10, g64, g65, g66, g75, gK, k14, v, ms, g14, k14', g9, ga, gl, hd⟩
        rw [List.drop_length, leftI, List.map_nil, List.nil_append] at hd
        repeat' first
          | (with_reducible refine CondX.dec (fun c => ?_) (fun c => ?_)) <;> try (exfalso; omega)
          | (with_reducible refine CondX.beq (fun c => ?_) (fun c => ?_)) <;> try (exfalso; omega)
          | (with_reducible refine CondX.bne (fun c => ?_) (fun c => ?_)) <;> try (exfalso; omega)
          | (with_reducible refine CondX.bool (fun c => ?_) (fun c => ?_)) <;> try (exfalso; omega)
          | simp only [go_sem, I_eq, I_cells, g3, g10, g64, g65, g66, g75, g14, g9, g76, g77, d2, hw, Nat.reduceAdd, Nat.reduceBEq, Nat.reduceEqDiff, Nat.reduceLeDiff, Nat.reduceLT, Nat.reduceSub]
          | simp (disch := omega) only [wrap_in, toNat_succ, toNat_pred, Int.toNat_natCast]
          | with_reducible refine And.intro (by omega) ?_
          | with_reducible refine exI (by omega) ?_
          | fail
        exact ⟨v, ms, rfl, ga, gl, by rw [hrest]; exact hd⟩
    · clear g1 g2' g3 g9 g47 g10 g48 g49 d2 gK
      rintro t d2 g66 g65 ⟨g3, g10, g64, gK, v, ms, g9, ga, gl, hd⟩
      rw [List.drop_length, outR, List.append_nil] at hd
      subst hd
      repeat' first
        | (with_reducible refine CondX.dec (fun c => ?_) (fun c => ?_)) <;> try (exfalso; omega)
        | (with_reducible refine CondX.beq (fun c => ?_) (fun c => ?_)) <;> try (exfalso; omega)
        | (with_reducible refine CondX.bne (fun c => ?_) (fun c => ?_)) <;> try (exfalso; omega)
        | (with_reducible refine CondX.bool (fun c => ?_) (fun c => ?_)) <;> try (exfalso; omega)
        | simp only [go_sem, I_eq, I_cells, g3, g10, g64, g9, g65, g66, d2, Nat.reduceAdd, Nat.reduceBEq, Nat.reduceEqDiff, Nat.reduceLeDiff, Nat.reduceLT, Nat.reduceSub]
        | simp (disch := omega) only [wrap_in, toNat_succ, toNat_pred, Int.toNat_natCast]
        | with_reducible refine And.intro (by omega) ?_
        | with_reducible refine exI (by omega) ?_
        | fail
      exact ⟨ga, gK⟩
theorem ref_Left_own (h : Hp) (ps : List Int) (e1 e2 : Bool) (ss : List Nst) (u v : Int) (hl : ss.length = ps.length) (hs : ∀ s ∈ ss, EdgeOk s) : CallK Try.prog 27 [.l e1 1 (ps.map I), .l e2 6 (ss.map encS), .int .i64 u, .int .i64 v] h (OwnR 5 ((leftR ps ss u v).map encM) h) := by
  cases hc : hasN ps u && hasN ps v && nearB ps u v
  · rw [show leftR ps ss u v = [] by unfold leftR; rw [hc]; rfl]
    exact ref_Left_none h ps e1 e2 ss u v hc
  · simp only [Bool.and_eq_true] at hc
    have h1 := hc.1.1
    have h2 := hc.1.2
    simp only [hasN, decide_eq_true_eq] at h1 h2
    obtain ⟨a, rfl⟩ : ∃ a : Nat, u = a := ⟨u.toNat, by omega⟩
    obtain ⟨b, rfl⟩ : ∃ b : Nat, v = b := ⟨v.toNat, by omega⟩
    exact ref_Left_some h ps e1 e2 ss a b hl hs hc.1.1 hc.1.2 hc.2
theorem ref_Left_spec (ps : List Int) (e1 e2 : Bool) (ss : List Nst) (u v : Int) (hl : ss.length = ps.length) (hs : ∀ s ∈ ss, EdgeOk s) : PureF Try.prog 27 [.l e1 1 (ps.map I), .l e2 6 (ss.map encS), .int .i64 u, .int .i64 v] (rowM (leftR ps ss u v)) :=
  PureF.ofOwn (fun h => ref_Left_own h ps e1 e2 ss u v hl hs) (M_lfs _)
end Go.Proofs.Ytmajndgdfmnchaa
/- What is left is what the document tells. -/
namespace Go.Gh
open Go.Proofs.Ytmajndgdfmnchaa
theorem seenR_none {u s : Int} {es : List Sid} (h : ∀ x ∈ es, x.peer ≠ u) : seenR u s es = s := by
  induction es generalizing s with
  | nil => rfl
  | cons e r ih =>
    rw [seenR, if_neg (h e List.mem_cons_self)]
    exact ih fun x hx => h x (List.mem_cons_of_mem _ hx)
theorem outR_none {u s : Int} {es : List Sid} (h : ∀ x ∈ es, x.peer ≠ u) : outR s u es = [] := by
  induction es with
  | nil => rfl
  | cons e r ih =>
    rw [outR, if_neg (h e List.mem_cons_self)]
    exact ih fun x hx => h x (List.mem_cons_of_mem _ hx)
theorem seenR_one {u s : Int} {es : List Sid} {e : Sid} (hp : es.Pairwise fun x y => x.peer ≠ y.peer) (he : e ∈ es) (hu : e.peer = u) : seenR u s es = e.seen := by
  induction es generalizing s with
  | nil => cases he
  | cons x r ih =>
    rw [List.pairwise_cons] at hp
    rw [seenR]
    rcases List.mem_cons.1 he with rfl | he
    · rw [if_pos hu]
      exact seenR_none fun y hy => by rw [← hu]; exact (hp.1 y hy).symm
    · exact ih hp.2 he
theorem outR_one {u s : Int} {es : List Sid} {e : Sid} (hp : es.Pairwise fun x y => x.peer ≠ y.peer) (he : e ∈ es) (hu : e.peer = u) : outR s u es = (leftI e.base s 0 e.out).map Prod.snd := by
  induction es with
  | nil => cases he
  | cons x r ih =>
    rw [List.pairwise_cons] at hp
    rw [outR]
    rcases List.mem_cons.1 he with rfl | he
    · rw [if_pos hu, outR_none fun y hy => by rw [← hu]; exact (hp.1 y hy).symm, List.append_nil]
    · rw [if_neg (by rw [← hu]; exact hp.1 e he), List.nil_append]
      exact ih hp.2 he
theorem peers_ne {ps : List Int} (hok : TreeOk ps) {s : Nst} (h : goodS ps s = true) : s.edges.Pairwise fun x y => x.peer ≠ y.peer := by
  obtain ⟨h1, h2⟩ := edgesB_at (goodS_edges h)
  have hm : s.edges.map Sid.peer = nbr ps s.me := by
    apply List.ext_getElem
    · simp [h1]
    · intro i a b
      rw [List.getElem_map]
      exact (h2 i b (by simpa using a)).1
  have hn : (nbr ps s.me).Pairwise (· ≠ ·) := by
    rw [nbr_eq hok]
    unfold refNbr
    split
    · exact (lt_refN ps s.me ps.length).imp fun h => by omega
    · exact .nil
  rw [← hm, List.pairwise_map] at hn
  exact hn
theorem left_eq {ps : List Int} {ss : List Nst} (hok : TreeOk ps) (hf : fitB ps ss = true) (u v : Int) : leftL ps ss u v = leftR ps ss u v := by
  unfold leftL leftR
  rw [hf]
  by_cases hv : v ∈ nbr ps u
  · have hm := (mem_nbr hok u v).1 hv
    obtain ⟨hln, hat⟩ := fit_at hf
    have hu := hm.1
    have hw := hm.2.1
    simp only [hasN, decide_eq_true_eq] at hu hw
    have la : u.toNat < ss.length := by omega
    have lb : v.toNat < ss.length := by omega
    obtain ⟨i, hi, -, o1, -, p1⟩ := side_at (v := v) (hat _ la).2.1 (by rw [(hat _ la).1, show ((u.toNat : Nat) : Int) = u by omega]; exact hv)
    obtain ⟨j, hj, -, o2, -, p2⟩ := side_at (v := u) (hat _ lb).2.1 (by rw [(hat _ lb).1, show ((v.toNat : Nat) : Int) = v by omega]; exact mem_nbr_comm hok hv)
    rw [hm.1, hm.2.1, hm.2.2, at0_at la, at0_at lb, o1, o2, seenR_one (peers_ne hok (hat _ lb).2.1) (List.getElem_mem hj) p2, outR_one (peers_ne hok (hat _ la).2.1) (List.getElem_mem hi) p1]
    simp [hv]
  · have : (hasN ps u && hasN ps v && nearB ps u v) = false := by
      rw [mem_nbr hok] at hv
      cases h1 : hasN ps u <;> cases h2 : hasN ps v <;> cases h3 : nearB ps u v <;> simp_all
    rw [this]
    simp [hv]
theorem EdgeOk.of {ps : List Int} {ss : List Nst} (hok : TreeOk ps) (hf : fitB ps ss = true) : ∀ s ∈ ss, EdgeOk s := by
  intro s hs
  obtain ⟨i, hi, rfl⟩ := List.getElem_of_mem hs
  have h1 := (fit_at hf).2 i hi
  have h2 := Fine.of h1.2.1
  have h3 := h2.edges
  have h4 := nbr_len ps ss[i].me
  have h5 := hok.len
  exact ⟨by omega, h2.sid⟩
end Go.Gh
/- The statements of layer 19 about what is heavy. -/
namespace Go.Proofs.Ytmajndgdfmnchaa
open Go Go.T Go.Gh Go.Proofs
set_option linter.unusedSimpArgs false
set_option maxRecDepth 10000
set_option maxHeartbeats 4000000
theorem heavy19_spec (ss : List Nst) (e : Bool) (hlen : ss.length ≤ 9223372036854775807) (hs : ∀ s ∈ ss, Sized s) : PureF Try.prog 25 [.l e 6 (ss.map encS)] (.bool (heavyL ss.length ss)) := by
  refine PureF.of_awp mixed (fun _ => []) (fn := Try.f25) (by kernel_rfl) rfl (by kernel_rfl) (by show 1 ≤ _; decide) (by simp [AV.lf]) (fun h => ?_)
  repeat' first
    | (with_reducible refine CondX.dec (fun c => ?_) (fun c => ?_)) <;> try (exfalso; omega)
    | (with_reducible refine CondX.beq (fun c => ?_) (fun c => ?_)) <;> try (exfalso; omega)
    | (with_reducible refine CondX.bne (fun c => ?_) (fun c => ?_)) <;> try (exfalso; omega)
    | (with_reducible refine CondX.bool (fun c => ?_) (fun c => ?_)) <;> try (exfalso; omega)
    | simp only [go_sem, I_eq, I_cells, Nat.reduceAdd, Nat.reduceBEq, Nat.reduceEqDiff, Nat.reduceLeDiff, Nat.reduceLT, Nat.reduceSub]
    | simp (disch := omega) only [wrap_in, toNat_succ, toNat_pred, Int.toNat_natCast]
    | with_reducible refine And.intro (by omega) ?_
    | with_reducible refine exI (by omega) ?_
    | fail
  refine awp_count 14 13 ss.length (by omega) (fun i t => ∃ n : Int, t.slots 3 = .int .i64 n ∧ t.slots 12 = .l e 6 (ss.map encS) ∧ Keeps h t.hp ∧ heavyL ss.length ss = heavyL n (ss.drop i)) ?_ ?_ ?_ ?_ ?_
  · simp only [go_sem, I_eq, I_cells, Nat.reduceAdd, Nat.reduceBEq, Nat.reduceEqDiff, Nat.reduceLeDiff, Nat.reduceLT, Nat.reduceSub]
  · simp only [go_sem, I_eq, I_cells, Nat.reduceAdd, Nat.reduceBEq, Nat.reduceEqDiff, Nat.reduceLeDiff, Nat.reduceLT, Nat.reduceSub]
  · simp only [go_sem, I_eq, I_cells, Nat.reduceAdd, Nat.reduceBEq, Nat.reduceEqDiff, Nat.reduceLeDiff, Nat.reduceLT, Nat.reduceSub]
    exact ⟨_, rfl, Keeps.refl h, rfl⟩
  · rintro i t hlt d2 hw g14 g13 ⟨n, g3, g12, gH, ha⟩
    obtain ⟨so, se, sa, sg, sc, su⟩ := hs _ (List.getElem_mem hlt)
    rw [drop_cons hlt, heavyL] at ha
    obtain ⟨n1, hn1⟩ : ∃ n1, IntKind.i64.wrap (n + IntKind.i64.wrap (IntKind.i64.wrap (IntKind.i64.wrap (ss[i].objs.length + ss[i].edges.length) + ss[i].asks.length) + ss[i].got.length)) = n1 := ⟨_, rfl⟩
    rw [hn1] at ha
    repeat' first
      | (with_reducible refine CondX.dec (fun c => ?_) (fun c => ?_)) <;> try (exfalso; omega)
      | (with_reducible refine CondX.beq (fun c => ?_) (fun c => ?_)) <;> try (exfalso; omega)
      | (with_reducible refine CondX.bne (fun c => ?_) (fun c => ?_)) <;> try (exfalso; omega)
      | (with_reducible refine CondX.bool (fun c => ?_) (fun c => ?_)) <;> try (exfalso; omega)
      | simp only [go_sem, I_eq, I_cells, g3, g12, g13, g14, d2, hw, hn1, encS_cells, Nat.reduceAdd, Nat.reduceBEq, Nat.reduceEqDiff, Nat.reduceLeDiff, Nat.reduceLT, Nat.reduceSub]
      | simp (disch := omega) only [wrap_in, toNat_succ, toNat_pred, Int.toNat_natCast]
      | with_reducible refine And.intro (by omega) ?_
      | with_reducible refine exI (by omega) ?_
      | fail
    refine awp_count 38 37 ss[i].edges.length (by omega) (fun j t => ∃ m : Int, t.slots 3 = .int .i64 m ∧ t.slots 12 = .l e 6 (ss.map encS) ∧ t.slots 13 = .int .i64 ss.length ∧ t.slots 14 = .int .i64 i ∧ (∃ L, t.slots 5 = .pt L 0 0 0 ∧ t.hp.con L = .blk (encS ss[i]).cells) ∧ t.slots 36 = .l false 4 (ss[i].edges.map encE) ∧ Keeps h t.hp ∧ outsH n1 ss[i].edges = outsH m (ss[i].edges.drop j)) ?_ ?_ ?_ ?_ ?_
    · simp only [go_sem, I_eq, I_cells, Nat.reduceAdd, Nat.reduceBEq, Nat.reduceEqDiff, Nat.reduceLeDiff, Nat.reduceLT, Nat.reduceSub]
    · simp only [go_sem, I_eq, I_cells, Nat.reduceAdd, Nat.reduceBEq, Nat.reduceEqDiff, Nat.reduceLeDiff, Nat.reduceLT, Nat.reduceSub]
    · simp only [go_sem, I_eq, I_cells, g12, g13, g14, encS_cells, Nat.reduceAdd, Nat.reduceBEq, Nat.reduceEqDiff, Nat.reduceLeDiff, Nat.reduceLT, Nat.reduceSub]
      exact ⟨n1, rfl, ⟨_, rfl, by simp only [go_sem, I_eq, I_cells, encS_cells, Nat.reduceAdd, Nat.reduceBEq, Nat.reduceEqDiff, Nat.reduceLeDiff, Nat.reduceLT, Nat.reduceSub]⟩, by ((repeat first | with_reducible apply Keeps.alloc | (with_reducible refine Keeps.set ?_ ?hL _; case hL => first | assumption | exact Hp.ok _ _ (by simp) | exact Keeps.new (by assumption) _ _)); first | assumption | exact Keeps.refl _), rfl⟩
    · clear g3 g12 g13 g14 gH
      rintro j t hlj d3 hw2 g38 g37 ⟨m, g3, g12, g13, g14, ⟨L, g5, hL⟩, g36, gH, hb⟩
      rw [drop_cons hlj, outsH] at hb
      have nL : (L = ⟨25, 7, t.hp.cnt 25 7⟩) = False := by
        simp only [eq_iff_iff, iff_false]; rintro rfl; rw [t.hp.ok _ (by simp)] at hL; cases hL
      obtain ⟨m1, hm1⟩ : ∃ m1, IntKind.i64.wrap (m + ss[i].edges[j].out.length) = m1 := ⟨_, rfl⟩
      rw [hm1] at hb
      repeat' first
        | (with_reducible refine CondX.dec (fun c => ?_) (fun c => ?_)) <;> try (exfalso; omega)
        | (with_reducible refine CondX.beq (fun c => ?_) (fun c => ?_)) <;> try (exfalso; omega)
        | (with_reducible refine CondX.bne (fun c => ?_) (fun c => ?_)) <;> try (exfalso; omega)
        | (with_reducible refine CondX.bool (fun c => ?_) (fun c => ?_)) <;> try (exfalso; omega)
        | simp only [go_sem, I_eq, I_cells, g3, g12, g13, g14, g5, hL, nL, g36, g37, g38, d3, hw2, hm1, encE_cells, Nat.reduceAdd, Nat.reduceBEq, Nat.reduceEqDiff, Nat.reduceLeDiff, Nat.reduceLT, Nat.reduceSub]
        | simp (disch := omega) only [wrap_in, toNat_succ, toNat_pred, Int.toNat_natCast]
        | with_reducible refine And.intro (by omega) ?_
        | with_reducible refine exI (by omega) ?_
        | fail
      · exact ⟨by rw [ha, hb, if_pos c], by ((repeat first | with_reducible apply Keeps.alloc | (with_reducible refine Keeps.set ?_ ?hL _; case hL => first | assumption | exact Hp.ok _ _ (by simp) | exact Keeps.new (by assumption) _ _)); first | assumption | exact Keeps.refl _)⟩
      · exact ⟨m1, rfl, ⟨_, rfl, by simp only [go_sem, I_eq, I_cells, nL, hL, Nat.reduceAdd, Nat.reduceBEq, Nat.reduceEqDiff, Nat.reduceLeDiff, Nat.reduceLT, Nat.reduceSub]⟩, by ((repeat first | with_reducible apply Keeps.alloc | (with_reducible refine Keeps.set ?_ ?hL _; case hL => first | assumption | exact Hp.ok _ _ (by simp) | exact Keeps.new (by assumption) _ _)); first | assumption | exact Keeps.refl _), by rw [hb, if_neg c]⟩
    · clear g3 g12 g13 g14 gH
      rintro t d3 g38 g37 ⟨m, g3, g12, g13, g14, ⟨L, g5, hL⟩, g36, gH, hb⟩
      rw [List.drop_length, outsH] at hb
      rw [hb] at ha
      simp only at ha
      repeat' first
        | (with_reducible refine CondX.dec (fun c => ?_) (fun c => ?_)) <;> try (exfalso; omega)
        | (with_reducible refine CondX.beq (fun c => ?_) (fun c => ?_)) <;> try (exfalso; omega)
        | (with_reducible refine CondX.bne (fun c => ?_) (fun c => ?_)) <;> try (exfalso; omega)
        | (with_reducible refine CondX.bool (fun c => ?_) (fun c => ?_)) <;> try (exfalso; omega)
        | simp only [go_sem, I_eq, I_cells, g3, g12, g13, g14, g5, hL, g36, g37, g38, d3, encS_cells, Nat.reduceAdd, Nat.reduceBEq, Nat.reduceEqDiff, Nat.reduceLeDiff, Nat.reduceLT, Nat.reduceSub]
        | simp (disch := omega) only [wrap_in, toNat_succ, toNat_pred, Int.toNat_natCast]
        | with_reducible refine And.intro (by omega) ?_
        | with_reducible refine exI (by omega) ?_
        | fail
      refine awp_count 53 52 ss[i].objs.length (by omega) (fun j t => ∃ q : Int, t.slots 3 = .int .i64 q ∧ t.slots 12 = .l e 6 (ss.map encS) ∧ t.slots 13 = .int .i64 ss.length ∧ t.slots 14 = .int .i64 i ∧ t.slots 51 = .l false 3 (ss[i].objs.map encO) ∧ Keeps h t.hp ∧ celsH m ss[i].objs = celsH q (ss[i].objs.drop j)) ?_ ?_ ?_ ?_ ?_
      · simp only [go_sem, I_eq, I_cells, Nat.reduceAdd, Nat.reduceBEq, Nat.reduceEqDiff, Nat.reduceLeDiff, Nat.reduceLT, Nat.reduceSub]
      · simp only [go_sem, I_eq, I_cells, Nat.reduceAdd, Nat.reduceBEq, Nat.reduceEqDiff, Nat.reduceLeDiff, Nat.reduceLT, Nat.reduceSub]
      · simp only [go_sem, I_eq, I_cells, g12, g13, g14, g3, Nat.reduceAdd, Nat.reduceBEq, Nat.reduceEqDiff, Nat.reduceLeDiff, Nat.reduceLT, Nat.reduceSub]
        exact ⟨m, rfl, gH, rfl⟩
      · clear g3 g12 g13 g14 gH g5 hL
        rintro j t hlj d4 hw2 g53 g52 ⟨q, g3, g12, g13, g14, g51, gH, hc⟩
        rw [drop_cons hlj, celsH] at hc
        obtain ⟨q1, hq1⟩ : ∃ q1, IntKind.i64.wrap (q + ss[i].objs[j].cells.length) = q1 := ⟨_, rfl⟩
        rw [hq1] at hc
        repeat' first
          | (with_reducible refine CondX.dec (fun c => ?_) (fun c => ?_)) <;> try (exfalso; omega)
          | (with_reducible refine CondX.beq (fun c => ?_) (fun c => ?_)) <;> try (exfalso; omega)
          | (with_reducible refine CondX.bne (fun c => ?_) (fun c => ?_)) <;> try (exfalso; omega)
          | (with_reducible refine CondX.bool (fun c => ?_) (fun c => ?_)) <;> try (exfalso; omega)
          | simp only [go_sem, I_eq, I_cells, g3, g12, g13, g14, g51, g52, g53, d4, hw2, hq1, encO_cells, Nat.reduceAdd, Nat.reduceBEq, Nat.reduceEqDiff, Nat.reduceLeDiff, Nat.reduceLT, Nat.reduceSub]
          | simp (disch := omega) only [wrap_in, toNat_succ, toNat_pred, Int.toNat_natCast]
          | with_reducible refine And.intro (by omega) ?_
          | with_reducible refine exI (by omega) ?_
          | fail
        · exact ⟨by rw [ha, hc, if_pos c], by ((repeat first | with_reducible apply Keeps.alloc | (with_reducible refine Keeps.set ?_ ?hL _; case hL => first | assumption | exact Hp.ok _ _ (by simp) | exact Keeps.new (by assumption) _ _)); first | assumption | exact Keeps.refl _)⟩
        · exact ⟨q1, rfl, by ((repeat first | with_reducible apply Keeps.alloc | (with_reducible refine Keeps.set ?_ ?hL _; case hL => first | assumption | exact Hp.ok _ _ (by simp) | exact Keeps.new (by assumption) _ _)); first | assumption | exact Keeps.refl _), by rw [hc, if_neg c]⟩
      · clear g3 g12 g13 g14 gH g5 hL
        rintro t d4 g53 g52 ⟨q, g3, g12, g13, g14, g51, gH, hc⟩
        rw [List.drop_length, celsH] at hc
        rw [hc] at ha
        simp only at ha
        repeat' first
          | (with_reducible refine CondX.dec (fun c => ?_) (fun c => ?_)) <;> try (exfalso; omega)
          | (with_reducible refine CondX.beq (fun c => ?_) (fun c => ?_)) <;> try (exfalso; omega)
          | (with_reducible refine CondX.bne (fun c => ?_) (fun c => ?_)) <;> try (exfalso; omega)
          | (with_reducible refine CondX.bool (fun c => ?_) (fun c => ?_)) <;> try (exfalso; omega)
          | simp only [go_sem, I_eq, I_cells, g3, g12, g13, g14, g51, g52, g53, d4, hw, Nat.reduceAdd, Nat.reduceBEq, Nat.reduceEqDiff, Nat.reduceLeDiff, Nat.reduceLT, Nat.reduceSub]
          | simp (disch := omega) only [wrap_in, toNat_succ, toNat_pred, Int.toNat_natCast]
          | with_reducible refine And.intro (by omega) ?_
          | with_reducible refine exI (by omega) ?_
          | fail
        · exact ⟨by rw [ha, if_pos c], gH⟩
        · exact ⟨q, rfl, gH, by rw [ha, if_neg c]⟩
  · rintro t d2 g14 g13 ⟨n, g3, g12, gH, ha⟩
    rw [List.drop_length] at ha
    simp only [go_sem, I_eq, I_cells, g3, g12, g13, g14, d2, Nat.reduceAdd, Nat.reduceBEq, Nat.reduceEqDiff, Nat.reduceLeDiff, Nat.reduceLT, Nat.reduceSub]
    exact ⟨by rw [ha]; rfl, gH⟩
end Go.Proofs.Ytmajndgdfmnchaa
