/- Part of a proof: what functions of the given program compute, and plain laws of it. -/
import Derived.Test.YtmajndgdfmnchaaZ7
import Derived.Test.YtmajndgdfmnchaaT3
/- tree.New. -/
namespace Go.Proofs.Ytmajndgdfmnchaa
open Go Go.T Go.Gh Go.Proofs
set_option linter.unusedSimpArgs false
def T19 : Nat → List Tg := fun id => if id = 4 then [.plain, .pure] else if id = 9 then [.plain, .plain, .plain, .blk] else if id = 10 then [.plain, .plain, .plain, .blk] else []
def nearC (l : List Int) : AV := .l false 1 (l.map I)
def treeV (ps : List Int) : AV := .ip [.l false 1 (ps.map I), .l false 1 ((nears ps).map nearC)]
theorem near_lfs (ns : List (List Int)) : AV.lfs (ns.map nearC) = true := by
  rw [lfs_iff]; intro x hx
  obtain ⟨n, _, rfl⟩ := List.mem_map.1 hx
  simp [nearC, AV.lf, I_lfs]
def cellO (L : Lab) (l : List Int) : AV := if l = [] then .l true 0 [] else .os L
structure NearH (h hp : Hp) (Lt Ln : Lab) (Lf : Nat → Lab) (ls : Nat → List Int) (ps : List Int) (cs : List AV) : Prop where
  t : hp.con Lt = .blk [.l false 1 (ps.map I), .os Ln]
  n : hp.con Ln = .arr 1 cs
  len : cs.length = ps.length
  cell : ∀ v (hv : v < cs.length), cs[v] = cellO (Lf v) (ls v)
  f : ∀ v, v < ps.length → ls v ≠ [] → hp.con (Lf v) = .arr 1 ((ls v).map I)
  ne : ∀ v, v < ps.length → ls v ≠ [] → Lf v ≠ Lt ∧ Lf v ≠ Ln
  inj : ∀ u v, u < ps.length → v < ps.length → u ≠ v → ls u ≠ [] → ls v ≠ [] → Lf u ≠ Lf v
  tn : Lt ≠ Ln
  ht : h.con Lt = .none
  hn : h.con Ln = .none
  hf : ∀ v, v < ps.length → ls v ≠ [] → h.con (Lf v) = .none
  keeps : Keeps h hp
theorem NearH.fresh {h hp : Hp} {Lt Ln : Lab} {Lf : Nat → Lab} {ls : Nat → List Int} {ps : List Int} {cs : List AV} (H : NearH h hp Lt Ln Lf ls ps cs) (f s : Nat) :
    hp.con ⟨f, s, hp.cnt f s⟩ = .none ∧ h.con ⟨f, s, hp.cnt f s⟩ = .none ∧ ⟨f, s, hp.cnt f s⟩ ≠ Lt ∧ ⟨f, s, hp.cnt f s⟩ ≠ Ln ∧ (∀ v, v < ps.length → ls v ≠ [] → Lf v ≠ ⟨f, s, hp.cnt f s⟩) := by
  have h1 : hp.con ⟨f, s, hp.cnt f s⟩ = .none := hp.ok _ (by simp)
  refine ⟨h1, ?_, ?_, ?_, ?_⟩
  · rcases H.keeps ⟨f, s, hp.cnt f s⟩ with k | k
    · exact k
    · rw [← k]; exact h1
  · intro hE; rw [hE, H.t] at h1; cases h1
  · intro hE; rw [hE, H.n] at h1; cases h1
  · intro v hv hn hE; rw [← hE, H.f v hv hn] at h1; cases h1
def AppH (hp hp' : Hp) (L' : Lab) (old : Lab) (l : List Int) (x : Int) : Prop :=
  hp'.con L' = .arr 1 ((l ++ [x]).map I) ∧ ∀ M, M ≠ L' → (l ≠ [] → M ≠ old) → hp'.con M = hp.con M
theorem NearH.app {h hp : Hp} {Lt Ln : Lab} {Lf : Nat → Lab} {ls : Nat → List Int} {ps : List Int} {cs : List AV} (H : NearH h hp Lt Ln Lf ls ps cs) {v : Nat} (hv : v < cs.length) (hl : (ls v).length < 2 ^ 20) (f s : Nat) (x : Int) {K : AV → Hp → Prop}
    (hK : ∀ hp', AppH hp hp' ⟨f, s, hp.cnt f s⟩ (Lf v) (ls v) x → K (.os ⟨f, s, hp.cnt f s⟩) hp') : appendX hp f s 1 8 (cs[v].cells.getD 0 .undef) [.int .i64 x] K := by
  have hv' : v < ps.length := H.len ▸ hv
  rw [H.cell v hv]
  by_cases hne : ls v = []
  · simp only [cellO, hne, if_true, AV.cells, List.getD_cons_zero, appendX]
    refine ⟨by simp, by simp, by decide, hK _ ⟨?_, fun M hM _ => ?_⟩⟩
    · simp [Hp.alloc, hne, I]
    · simp [Hp.alloc, hM]
  · simp only [cellO, hne, if_false, AV.cells, List.getD_cons_zero, appendX, H.f v hv' hne, appendC, List.length_map, List.length_cons, List.length_nil]
    refine ⟨trivial, by omega, by omega, by decide, hK _ ⟨?_, fun M hM hO => ?_⟩⟩
    · simp [Hp.alloc, Hp.set, I]
    · have := hO hne
      simp [Hp.alloc, Hp.set, hM, this]
theorem over_cell {L : Lab} {l : List Int} {a : AV} (h : a = cellO L l) (v : AV) : a.over 0 [v] = v := by
  subst h; unfold cellO; split <;> simp [AV.over, setRange]
def updF {α : Type} (f : Nat → α) (v : Nat) (x : α) (u : Nat) : α := if u = v then x else f u
theorem NearH.upd {h hp hp' hp'' : Hp} {Lt Ln : Lab} {Lf : Nat → Lab} {ls : Nat → List Int} {ps : List Int} {cs : List AV} (H : NearH h hp Lt Ln Lf ls ps cs) {v : Nat} (hv : v < cs.length) {f s : Nat} {x : Int}
    (hA : AppH hp hp' ⟨f, s, hp.cnt f s⟩ (Lf v) (ls v) x) (hn : hp''.con Ln = .arr 1 (cs.set v (.os ⟨f, s, hp.cnt f s⟩))) (ho : ∀ M, M ≠ Ln → hp''.con M = hp'.con M) :
    NearH h hp'' Lt Ln (updF Lf v ⟨f, s, hp.cnt f s⟩) (updF ls v (ls v ++ [x])) ps (cs.set v (.os ⟨f, s, hp.cnt f s⟩)) := by
  obtain ⟨f1, f2, f3, f4, f5⟩ := H.fresh f s
  have hv' : v < ps.length := H.len ▸ hv
  generalize hL' : (⟨f, s, hp.cnt f s⟩ : Lab) = L' at *
  obtain ⟨a1, a2⟩ := hA
  refine ⟨?_, hn, by simpa using H.len, ?_, ?_, ?_, ?_, H.tn, H.ht, H.hn, ?_, ?_⟩
  · rw [ho _ H.tn, a2 _ (Ne.symm f3) (fun hne => (H.ne v hv' hne).1.symm), H.t]
  · intro u hu
    rw [List.getElem_set]
    by_cases hE : u = v
    · subst hE; simp [updF, cellO]
    · have hu' : u < cs.length := by simpa using hu
      simp [updF, hE, Ne.symm hE, H.cell u hu']
  · intro u hu hne
    by_cases hE : u = v
    · subst hE; simp only [updF, if_true]; rw [ho _ f4, a1]
    · simp only [updF, hE, if_false] at hne ⊢
      rw [ho _ (H.ne u hu hne).2, a2 _ (f5 u hu hne) (fun hne' => H.inj u v hu hv' hE hne hne'), H.f u hu hne]
  · intro u hu hne
    by_cases hE : u = v
    · subst hE; simp only [updF, if_true]; exact ⟨f3, f4⟩
    · simp only [updF, hE, if_false] at hne ⊢; exact H.ne u hu hne
  · intro a b ha hb hab na nb
    by_cases hE : a = v
    · subst hE
      have hb' : b ≠ a := Ne.symm hab
      simp only [updF, hb', if_true, if_false] at nb ⊢
      exact (f5 b hb nb).symm
    · simp only [updF, hE, if_false] at na ⊢
      by_cases hE' : b = v
      · subst hE'; simp only [if_true]; exact f5 a ha na
      · simp only [updF, hE', if_false] at nb ⊢; exact H.inj a b ha hb hab na nb
  · intro u hu hne
    by_cases hE : u = v
    · subst hE; simp only [updF, if_true]; exact f2
    · simp only [updF, hE, if_false] at hne ⊢; exact H.hf u hu hne
  · intro M
    by_cases h1 : M = Ln
    · subst h1; exact .inl H.hn
    · rw [ho _ h1]
      by_cases h2 : M = L'
      · subst h2; exact .inl f2
      · by_cases h3 : ls v ≠ [] ∧ M = Lf v
        · obtain ⟨h3, rfl⟩ := h3; exact .inl (H.hf v hv' h3)
        · rw [a2 _ h2 (fun hne hM => h3 ⟨hne, hM⟩)]; exact H.keeps M
theorem near_frz (L : Lab) (c : Con) (l : List Int) : (nearC l).frz L c = nearC l := by simp [nearC, AV.frz, I_frzs]
theorem sortI_nil {l : List Int} : sortI l = [] ↔ l = [] := by
  rw [← List.length_eq_zero_iff, ← List.length_eq_zero_iff, sortI, List.length_mergeSort]
theorem NearH.sorted {h hp : Hp} {Lt Ln : Lab} {Lf : Nat → Lab} {ls : Nat → List Int} {ps : List Int} {cs : List AV} (H : NearH h hp Lt Ln Lf ls ps cs) {v : Nat} (hv : v < ps.length) (hne : ls v ≠ []) (ys : List Int) (hy : ys ≠ []) :
    NearH h (hp.set (Lf v) (.arr 1 (ys.map I))) Lt Ln Lf (updF ls v ys) ps cs := by
  obtain ⟨k1, k2⟩ := H.ne v hv hne
  have hup : ∀ u, updF ls v ys u ≠ [] → ls u ≠ [] := by
    intro u hu
    by_cases hE : u = v
    · subst hE; exact hne
    · simpa [updF, hE] using hu
  refine ⟨by rw [set_con_ne (Ne.symm k1)]; exact H.t, by rw [set_con_ne (Ne.symm k2)]; exact H.n, H.len, ?_, ?_, fun u hu hn => H.ne u hu (hup u hn), fun a b ha hb hab na nb => H.inj a b ha hb hab (hup a na) (hup b nb), H.tn, H.ht, H.hn, fun u hu hn => H.hf u hu (hup u hn), H.keeps.set (H.hf v hv hne) _⟩
  · intro u hu
    rw [H.cell u hu]
    by_cases hE : u = v
    · subst hE; simp [cellO, updF, hne, hy]
    · simp [cellO, updF, hE]
  · intro u hu hn
    by_cases hE : u = v
    · subst hE; rw [set_con_eq (by rw [H.f u hu hne]; trivial)]; simp [updF]
    · have hn' := hup u hn
      rw [set_con_ne (H.inj u v hu hv hE hn' hne), H.f u hu hn']; simp [updF, hE]
theorem NearH.congr {h hp : Hp} {Lt Ln : Lab} {Lf : Nat → Lab} {ls ls' : Nat → List Int} {ps : List Int} {cs : List AV} (H : NearH h hp Lt Ln Lf ls ps cs) (he : ∀ v, v < ps.length → ls v = ls' v) : NearH h hp Lt Ln Lf ls' ps cs :=
  ⟨H.t, H.n, H.len, fun v hv => by rw [H.cell v hv, he v (H.len ▸ hv)], fun v hv hn => by rw [← he v hv] at hn ⊢; exact H.f v hv hn, fun v hv hn => H.ne v hv (by rw [he v hv]; exact hn),
    fun a b ha hb hab na nb => H.inj a b ha hb hab (by rw [he a ha]; exact na) (by rw [he b hb]; exact nb), H.tn, H.ht, H.hn, fun v hv hn => H.hf v hv (by rw [he v hv]; exact hn), H.keeps⟩
theorem NearH.frozen {h hp : Hp} {Lt Ln : Lab} {Lf : Nat → Lab} {ps : List Int} {cs : List AV} (H : NearH h hp Lt Ln Lf (fun v => sortI (nearL ps v ps.length)) ps cs) :
    ∃ h'', Frz hp (.tup [.pt Lt 0 0 0, .int .i64 0]) h'' (.tup [treeV ps, .int .i64 0]) ∧ Keeps h h'' := by
  have key := Frz.list (mk := fun xs => .tup [.ip [.l false 1 (ps.map I), .l false 1 xs], .int .i64 0]) (fun L c xs => by simp [AV.frz, AV.frzs, I_frzs]) h ps.length
    ((List.range ps.length).map fun v => (cellO (Lf v) (sortI (nearL ps v ps.length)), if sortI (nearL ps v ps.length) = [] then AV.l true 0 [] else nearC (sortI (nearL ps v ps.length)))) [] ((hp.set Lt .none).set Ln .none) (fun _ r => r = .tup [treeV ps, .int .i64 0]) (by simp) (by simp)
    ((H.keeps.set H.ht .none).set H.hn .none) (by
      intro p hp
      obtain ⟨v, hv, rfl⟩ := List.mem_map.1 hp
      have hv' : v < ps.length := by simpa using hv
      by_cases hn : sortI (nearL ps v ps.length) = []
      · refine ⟨fun L c => by simp [hn, AV.frz, AV.frzs], .inl (by simp [cellO, hn])⟩
      · obtain ⟨k1, k2⟩ := H.ne v hv' hn
        refine ⟨fun L c => by simp [hn, near_frz], .inr ⟨Lf v, 1, (sortI (nearL ps v ps.length)).map I, by simp [cellO, hn], H.hf v hv' hn, ?_, by simp only [hn, if_false, nearC]⟩⟩
        rw [set_con_ne k2, set_con_ne k1]; exact H.f v hv' hn) (by
      intro h' _
      refine ⟨_, ?_, rfl⟩
      refine Le.tup rfl fun j hj => ?_
      match j, hj with
      | 1, _ => exact Le.refl _
      | 0, _ =>
        refine Le.ip rfl fun j hj => ?_
        match j, hj with
        | 0, _ => exact Le.refl _
        | 1, _ =>
          refine Le.lst (by simp [nears]) fun i hi => ?_
          have hi' : i < ps.length := by simpa using hi
          simp only [List.nil_append, List.map_map, List.getElem_map, Function.comp_apply, List.getElem_range, nears]
          by_cases hn : sortI (nearL ps i ps.length) = []
          · refine ⟨by simp [hn, nearC, AV.cells], fun j => ?_⟩
            cases j with
            | zero => simp only [hn, if_true, nearC, AV.cells, List.map_nil, List.getD_cons_zero]; exact Le.l0
            | succ j => simp only [hn, if_true, nearC, AV.cells, List.map_nil, List.getD_cons_succ]; exact Le.refl _
          · refine ⟨by simp [hn, nearC, AV.cells], fun j => ?_⟩
            simp only [hn, if_false]; exact Le.refl _)
  obtain ⟨h'', r, f1, f2, rfl⟩ := key
  refine ⟨h'', ?_, f2⟩
  refine .step _ Lt _ _ _ (.step _ Ln _ _ _ ?_)
  have hcs : cs = ([] : List AV) ++ ((List.range ps.length).map fun v => (cellO (Lf v) (sortI (nearL ps v ps.length)), if sortI (nearL ps v ps.length) = [] then AV.l true 0 [] else nearC (sortI (nearL ps v ps.length)))).map Prod.fst := by
    apply List.ext_getElem
    · simp [H.len]
    · intro i h1 h2
      rw [H.cell i h1]; simp
  have e1 : ((AV.tup [.pt Lt 0 0 0, .int .i64 0]).frz Lt (hp.con Lt)).frz Ln ((hp.set Lt .none).con Ln) = .tup [.ip [.l false 1 (ps.map I), .l false 1 cs], .int .i64 0] := by
    rw [H.t, set_con_ne H.tn.symm, H.n]
    simp [AV.frz, AV.frzs, I_frzs, H.tn]
  rw [e1, hcs]
  exact f1
set_option maxRecDepth 10000 in
theorem f19_bad (ps : List Int) (e : Bool) (hbad : (treeR ps).2 ≠ 0) : PureF Try.prog 19 [.l e 1 (ps.map I)] (.tup [.nilp, .int .i64 (treeR ps).2]) := by
  refine PureF.of_awp mixed T19 (fn := Try.f19) (by kernel_rfl) rfl (by kernel_rfl) (by show 1 ≤ _; decide) (by simp [AV.lf, AV.lfs]) (fun h => ?_)
  simp only [go_sem, I_eq, I_cells, T19, Nat.reduceAdd, Nat.reduceBEq, Nat.reduceEqDiff, Nat.reduceLeDiff, Nat.reduceLT, Nat.reduceSub]
  refine CallX.pure (f46_spec ps e) ?_
  have b : ((treeR ps).2 != 0) = true := by simpa using hbad
  simp only [go_sem, I_eq, I_cells, T19, pairV, b, Nat.reduceAdd, Nat.reduceBEq, Nat.reduceEqDiff, Nat.reduceLeDiff, Nat.reduceLT, Nat.reduceSub]
  exact Keeps.refl h
set_option maxRecDepth 10000 in
theorem f19_spec (ps : List Int) (e : Bool) (hok : treeR ps = (0, 0)) : PureF Try.prog 19 [.l e 1 (ps.map I)] (.tup [treeV ps, .int .i64 0]) := by
  have hz : ps.length ≠ 0 := fun hz => by simp [treeR, hz] at hok
  have hg : ¬ 32 < ps.length := fun hg => by simp [treeR, hz, hg] at hok
  have hf : ∀ u, u < ps.length → faultB ps u = false := by
    intro u hu
    cases hc : (List.range ps.length).find? (faultB ps) with
    | some v => simp [treeR, hz, hg, hc] at hok
    | none => rw [List.find?_range_eq_none] at hc; simpa using hc u hu
  refine PureF.of_awpZ mixed T19 (fn := Try.f19) (by kernel_rfl) rfl (by kernel_rfl) (by show 1 ≤ _; decide) (by simp only [AV.lf, AV.lfs, treeV, I_lfs, near_lfs, Bool.and_true, Bool.and_self]) (fun h => ?_)
  simp only [go_sem, I_eq, I_cells, T19, Nat.reduceAdd, Nat.reduceBEq, Nat.reduceEqDiff, Nat.reduceLeDiff, Nat.reduceLT, Nat.reduceSub]
  refine CallX.pure (f46_spec ps e) ?_
  have b : ((0 : Int) != 0) = false := by decide
  simp only [go_sem, I_eq, I_cells, T19, pairV, hok, b, Nat.reduceAdd, Nat.reduceBEq, Nat.reduceEqDiff, Nat.reduceLeDiff, Nat.reduceLT, Nat.reduceSub]
  refine PureX.of (f47_spec ps e (by omega)) ?_
  simp only [go_sem, I_eq, I_cells, T19, Nat.reduceAdd, Nat.reduceBEq, Nat.reduceEqDiff, Nat.reduceLeDiff, Nat.reduceLT, Nat.reduceSub]
  refine ⟨by omega, by omega, by omega, ?_⟩
  refine awp_count 28 27 ps.length (by omega) (fun i s => s.slots 26 = .l e 1 (ps.map I) ∧ ∃ Lt Ln Lf cs, s.slots 6 = .pt Lt 0 0 0 ∧ NearH h s.hp Lt Ln Lf (fun v => nearL ps v i) ps cs) ?_ ?_ ?_ ?_ ?_
  · simp only [go_sem, I_eq, I_cells, T19, Nat.reduceAdd, Nat.reduceBEq, Nat.reduceEqDiff, Nat.reduceLeDiff, Nat.reduceLT, Nat.reduceSub]
  · simp only [go_sem, I_eq, I_cells, T19, Nat.reduceAdd, Nat.reduceBEq, Nat.reduceEqDiff, Nat.reduceLeDiff, Nat.reduceLT, Nat.reduceSub]
  · simp only [go_sem, I_eq, I_cells, T19, Nat.reduceAdd, Nat.reduceBEq, Nat.reduceEqDiff, Nat.reduceLeDiff, Nat.reduceLT, Nat.reduceSub]
    refine ⟨⟨19, 25, h.cnt 19 25⟩, ⟨19, 23, h.cnt 19 23⟩, fun _ => ⟨19, 23, 0⟩, List.replicate ps.length (.l true 0 []), rfl, ?_⟩
    have k0 : ∀ s, h.con ⟨19, s, h.cnt 19 s⟩ = .none := fun s => h.ok _ (by simp)
    refine ⟨by simp [Hp.alloc], by simp [Hp.alloc], by simp, fun v hv => by simp [cellO, nearL], fun v _ hv => absurd rfl hv, fun v _ hv => absurd rfl hv, fun u v _ _ _ hu => absurd rfl hu, by simp, k0 _, k0 _, fun v _ hv => absurd rfl hv, ((Keeps.refl h).alloc _ _ _).alloc _ _ _⟩
  · rintro i s hlt d2 hw g28 g27 ⟨g26, Lt, Ln, Lf, cs, g6, H⟩
    have e0 : ps.getD i 0 = ps[i] := by rw [List.getD_eq_getElem?_getD, List.getElem?_eq_getElem hlt]; rfl
    cases b1 : decide (ps[i] ≥ 0)
    · simp only [go_sem, I_eq, I_cells, T19, d2, hw, g28, g27, g26, g6, b1, Nat.reduceAdd, Nat.reduceBEq, Nat.reduceEqDiff, Nat.reduceLeDiff, Nat.reduceLT, Nat.reduceSub]
      simp only [ge_iff_le, decide_eq_false_iff_not] at b1
      have hs : ∀ v, nearL ps v (i + 1) = nearL ps v i := fun v => by simp only [nearL, e0, if_neg b1]
      refine ⟨by omega, hlt, Lt, Ln, Lf, cs, rfl, ?_⟩
      simpa only [hs] using H
    · have hcon := H.t
      have hcn := H.n
      have hlt' : i < cs.length := by rw [H.len]; exact hlt
      obtain ⟨q1, q2, q3⟩ := in_tree hlt (hf i hlt)
      simp only [ge_iff_le, decide_eq_true_eq] at b1
      obtain ⟨j, hj⟩ : ∃ j : Nat, ps[i] = j := ⟨ps[i].toNat, by omega⟩
      have hjn : j < ps.length := by omega
      have hji : j ≠ i := fun hE => q3 (by rw [hj, hE])
      have b1' : decide ((j : Int) ≥ 0) = true := by simp
      simp only [go_sem, I_eq, I_cells, T19, d2, hw, g28, g27, g26, g6, hj, b1', hcon, hcn, Nat.reduceAdd, Nat.reduceBEq, Nat.reduceEqDiff, Nat.reduceLeDiff, Nat.reduceLT, Nat.reduceSub]
      refine ⟨by omega, hlt, by omega, hlt', hlt', by decide, H.app hlt' (by show (nearL ps i i).length < _; have := nearL_len ps i i; omega) 19 49 _ ?_⟩
      intro hp1 A1
      obtain ⟨f1, f2, f3, f4, f5⟩ := H.fresh 19 49
      have n1 : hp1.con Ln = .arr 1 cs := by rw [A1.2 _ (Ne.symm f4) (fun hne => (H.ne i hlt hne).2.symm)]; exact H.n
      have t1 : hp1.con Lt = .blk [.l false 1 (ps.map I), .os Ln] := by rw [A1.2 _ (Ne.symm f3) (fun hne => (H.ne i hlt hne).1.symm)]; exact H.t
      have ov := over_cell (H.cell i hlt') (.os ⟨19, 49, s.hp.cnt 19 49⟩)
      have n2 : (hp1.set Ln (.arr 1 (cs.set i (.os ⟨19, 49, s.hp.cnt 19 49⟩)))).con Ln = .arr 1 (cs.set i (.os ⟨19, 49, s.hp.cnt 19 49⟩)) := set_con_eq (by rw [n1]; trivial)
      have H1 := H.upd hlt' A1 n2 (fun M hM => set_con_ne hM)
      have htn := H.tn
      generalize hhp2 : hp1.set Ln (.arr 1 (cs.set i (.os ⟨19, 49, s.hp.cnt 19 49⟩))) = hp2 at H1 n2
      have t2 := H1.t
      simp only [go_sem, I_eq, I_cells, n1, t1, ov, hhp2, n2, t2, Nat.reduceAdd, Nat.reduceBEq, Nat.reduceEqDiff, Nat.reduceLeDiff, Nat.reduceLT, Nat.reduceSub]
      have hlj : j < (cs.set i (.os ⟨19, 49, s.hp.cnt 19 49⟩)).length := by rw [List.length_set, H.len]; exact hjn
      refine ⟨by omega, hlt', hlt', by omega, hlj, hlj, by decide, H1.app hlj (by simp only [updF, if_neg hji]; have := nearL_len ps j i; omega) 19 65 _ ?_⟩
      intro hp3 A2
      obtain ⟨g1, g2, g3, g4, g5⟩ := H1.fresh 19 65
      have n3 : hp3.con Ln = _ := (A2.2 _ (Ne.symm g4) (fun hne => (H1.ne j hjn hne).2.symm)).trans n2
      have ov2 := over_cell (H1.cell j hlj) (.os ⟨19, 65, hp2.cnt 19 65⟩)
      have n4 := set_con_eq (h := hp3) (L := Ln) (c := .arr 1 ((cs.set i (.os ⟨19, 49, s.hp.cnt 19 49⟩)).set j (.os ⟨19, 65, hp2.cnt 19 65⟩))) (by rw [n3]; trivial)
      have H2 := H1.upd hlj A2 n4 (fun M hM => set_con_ne hM)
      simp only [go_sem, I_eq, I_cells, n3, ov2, Nat.reduceAdd, Nat.reduceBEq, Nat.reduceEqDiff, Nat.reduceLeDiff, Nat.reduceLT, Nat.reduceSub]
      have hls : (fun v => nearL ps v (i + 1)) = updF (updF (fun v => nearL ps v i) i (nearL ps i i ++ [(j : Int)])) j (updF (fun v => nearL ps v i) i (nearL ps i i ++ [(j : Int)]) j ++ [(i : Int)]) := by
        funext v
        simp only [nearL, e0, hj, if_pos (Int.natCast_nonneg j), updF, if_neg hji]
        by_cases hvi : i = v
        · subst hvi; rw [if_pos rfl, if_neg (Ne.symm hji), if_pos rfl]
        · rw [if_neg hvi]
          by_cases hvj : j = v
          · subst hvj; rw [if_pos rfl, if_pos rfl]
          · rw [if_neg (by omega), if_neg (Ne.symm hvj), if_neg (Ne.symm hvi)]
      have H3 := H2
      rw [← hls] at H3
      exact ⟨by omega, hlj, hlj, Lt, Ln, _, _, rfl, H3⟩
  · rintro s d2 g28 g27 ⟨g26, Lt, Ln, Lf, cs, g6, H⟩
    have hcon := H.t
    have hcn := H.n
    have htn := H.tn
    simp only [go_sem, I_eq, I_cells, T19, d2, g28, g27, g26, g6, hcon, hcn, H.len, Nat.reduceAdd, Nat.reduceBEq, Nat.reduceEqDiff, Nat.reduceLeDiff, Nat.reduceLT, Nat.reduceSub]
    refine awp_count 73 72 ps.length (by omega) (fun i s => s.slots 71 = .os Ln ∧ s.slots 6 = .pt Lt 0 0 0 ∧ NearH h s.hp Lt Ln Lf (fun v => if v < i then sortI (nearL ps v ps.length) else nearL ps v ps.length) ps cs) ?_ ?_ ?_ ?_ ?_
    · simp only [go_sem, I_eq, I_cells, T19, Nat.reduceAdd, Nat.reduceBEq, Nat.reduceEqDiff, Nat.reduceLeDiff, Nat.reduceLT, Nat.reduceSub]
    · simp only [go_sem, I_eq, I_cells, T19, Nat.reduceAdd, Nat.reduceBEq, Nat.reduceEqDiff, Nat.reduceLeDiff, Nat.reduceLT, Nat.reduceSub]
    · simp only [go_sem, I_eq, I_cells, T19, g6, Nat.reduceAdd, Nat.reduceBEq, Nat.reduceEqDiff, Nat.reduceLeDiff, Nat.reduceLT, Nat.reduceSub]
      simpa only [Nat.not_lt_zero, if_false] using H
    · clear H hcon hcn g28 g27 g26 g6
      rintro i s hlt d3 hw g73 g72 ⟨g71, g6, H⟩
      have hcon := H.t
      have hcn := H.n
      have hlt' : i < cs.length := by rw [H.len]; exact hlt
      have hls : ∀ ys, ys = sortI (nearL ps i ps.length) → (fun v => if v < i + 1 then sortI (nearL ps v ps.length) else nearL ps v ps.length) = updF (fun v => if v < i then sortI (nearL ps v ps.length) else nearL ps v ps.length) i ys := by
        rintro _ rfl
        funext v
        unfold updF
        by_cases h1 : v = i
        · subst h1; simp
        · by_cases h2 : v < i
          · rw [if_pos (by omega), if_neg h1]; exact (if_pos h2).symm
          · rw [if_neg (by omega), if_neg h1]; exact (if_neg h2).symm
      have hc := H.cell i hlt'
      simp only [Nat.lt_irrefl, if_false] at hc
      by_cases hne : nearL ps i ps.length = []
      · have hc' : cs[i] = .l true 0 [] := by rw [hc]; simp [cellO, hne]
        simp only [go_sem, I_eq, I_cells, T19, d3, hw, g73, g72, g71, g6, hcon, hcn, hc', Nat.reduceAdd, Nat.reduceBEq, Nat.reduceEqDiff, Nat.reduceLeDiff, Nat.reduceLT, Nat.reduceSub]
        refine ⟨by omega, hlt', hlt', ?_⟩
        refine CallX.pure (f48_nil true 0) ?_
        simp only [go_sem, I_eq, I_cells, T19, d3, hw, g73, g72, g71, g6, hcon, hcn, hc', Nat.reduceAdd, Nat.reduceBEq, Nat.reduceEqDiff, Nat.reduceLeDiff, Nat.reduceLT, Nat.reduceSub]
        have hl2 : (fun v => if v < i + 1 then sortI (nearL ps v ps.length) else nearL ps v ps.length) = (fun v => if v < i then sortI (nearL ps v ps.length) else nearL ps v ps.length) := by
          rw [hls _ rfl]; funext v; unfold updF
          by_cases h1 : v = i
          · subst h1; simp [hne, sortI_nil.2 rfl]
          · simp [h1]
        rw [hl2]; exact H
      · have hc' : cs[i] = .os (Lf i) := by rw [hc]; simp [cellO, hne]
        have hLi := H.f i hlt (by simpa using hne)
        simp only [Nat.lt_irrefl, if_false] at hLi
        simp only [go_sem, I_eq, I_cells, T19, d3, hw, g73, g72, g71, g6, hcon, hcn, hc', Nat.reduceAdd, Nat.reduceBEq, Nat.reduceEqDiff, Nat.reduceLeDiff, Nat.reduceLT, Nat.reduceSub]
        refine ⟨by omega, hlt', hlt', ?_⟩
        refine CallX.of (f48_spec (Lf i) _ hne (by have := nearL_len ps i ps.length; omega) _ hLi _ ?_)
        simp only [go_sem, I_eq, I_cells, T19, d3, hw, g73, g72, g71, g6, hcon, hcn, hc', Nat.reduceAdd, Nat.reduceBEq, Nat.reduceEqDiff, Nat.reduceLeDiff, Nat.reduceLT, Nat.reduceSub]
        have H' := H.sorted hlt (by simpa using hne) (sortI (nearL ps i ps.length)) (fun hx => hne (sortI_nil.1 hx))
        rw [← hls _ rfl] at H'
        exact H'
    · clear H hcon hcn g28 g27 g26 g6
      rintro s d3 g73 g72 ⟨g71, g6, H⟩
      simp only [go_sem, I_eq, I_cells, T19, d3, g73, g72, g71, g6, Nat.reduceAdd, Nat.reduceBEq, Nat.reduceEqDiff, Nat.reduceLeDiff, Nat.reduceLT, Nat.reduceSub]
      exact (H.congr (fun v hv => if_pos hv)).frozen
end Go.Proofs.Ytmajndgdfmnchaa
