/- ghost's Check. -/
import Derived.Test.YtmajndgdfmnchaaZH
namespace Go.Proofs.Ytmajndgdfmnchaa
open Go Go.T Go.Gh Go.Proofs
@[go_sem] theorem res13 : Try.f13.results = #[.tmp 4, .tmp 5] := by kernel_rfl

def tri (t : Lab × Lab × Lab) : List Lab := [t.1, t.2.1, t.2.2]
/-- The objects in memory. -/
structure Objs (g H : Hp) (labs : List (Lab × Lab × Lab)) (ob : Nat → Ob) : Prop where
  obj : ∀ k, (hk : k < labs.length) → ObAt H labs[k].1 labs[k].2.1 labs[k].2.2 (ob k)
  ne : ∀ k, (hk : k < labs.length) → labs[k].2.1 ≠ labs[k].2.2
  new : ∀ k, (hk : k < labs.length) → ∀ x ∈ tri labs[k], g.con x = .none
  dis : ∀ j k, (hj : j < labs.length) → (hk : k < labs.length) → j ≠ k → ∀ x ∈ tri labs[j], x ∉ tri labs[k]

/-- Variables and maps are as they were. -/
def KeepsO (h H : Hp) : Prop := ∀ M, (∀ cs, h.con M ≠ .blk cs) ∧ (∀ es c, h.con M ≠ .mp es c) ∨ H.con M = h.con M
theorem Keeps.toO {h H : Hp} (k : Keeps h H) : KeepsO h H := fun M => by
  rcases k M with h1 | h1
  · left; rw [h1]; exact ⟨fun _ => by simp, fun _ _ => by simp⟩
  · exact .inr h1
theorem KeepsO.arr {h : Hp} {L : Lab} {sz : Nat} {xs : List AV} (hL : h.con L = .arr sz xs) (c : Con) (f s : Nat) (c' : Con) : KeepsO h ((h.set L c).alloc f s c') := by
  intro M
  by_cases hE : M = ⟨f, s, (h.set L c).cnt f s⟩
  · left
    have : h.con M = .none := by rw [hE]; exact h.ok _ (by simp [Hp.set])
    rw [this]; exact ⟨fun _ => by simp, fun _ _ => by simp⟩
  · by_cases hE2 : M = L
    · left; rw [hE2, hL]; exact ⟨fun _ => by simp, fun _ _ => by simp⟩
    · right
      rw [show ((h.set L c).alloc f s c').con M = (h.set L c).con M from if_neg hE]
      exact if_neg hE2
theorem KeepsO.trans {a b c : Hp} (h1 : KeepsO a b) (h2 : KeepsO b c) : KeepsO a c := fun M => by
  rcases h1 M with g1 | g1
  · exact .inl g1
  · rcases h2 M with g2 | g2
    · left; rw [← g1]; exact g2
    · right; rw [g2, g1]
theorem ObAt.keep {H H' : Hp} {L L1 L2 : Lab} {o : Ob} (h : ObAt H L L1 L2 o) (k : KeepsO H H') : ObAt H' L L1 L2 o := by
  refine ⟨?_, ?_, ?_, h.len⟩
  · rcases k L with h1 | h1
    · exact absurd h.con (h1.1 _)
    · rw [h1]; exact h.con
  · rcases k L1 with h1 | h1
    · exact absurd h.m1 (h1.2 _ _)
    · rw [h1]; exact h.m1
  · rcases k L2 with h1 | h1
    · exact absurd h.m2 (h1.2 _ _)
    · rw [h1]; exact h.m2
theorem Objs.keep {g H H' : Hp} {labs : List (Lab × Lab × Lab)} {ob : Nat → Ob} (h : Objs g H labs ob) (k : KeepsO H H') : Objs g H' labs ob :=
  ⟨fun i hi => (h.obj i hi).keep k, h.ne, h.new, h.dis⟩
theorem Objs.nil (g H : Hp) (ob : Nat → Ob) : Objs g H [] ob :=
  ⟨fun k hk => by simp at hk, fun k hk => by simp at hk, fun k hk => by simp at hk, fun j k hj => by simp at hj⟩
theorem ObAt.live {H : Hp} {L L1 L2 : Lab} {o : Ob} (h : ObAt H L L1 L2 o) : ∀ x ∈ tri (L, L1, L2), H.con x ≠ .none := by
  intro x hx
  simp only [tri, List.mem_cons, List.not_mem_nil, or_false] at hx
  rcases hx with rfl | rfl | rfl
  · rw [h.con]; simp
  · rw [h.m1]; simp
  · rw [h.m2]; simp
theorem Objs.push {g H H' : Hp} {labs : List (Lab × Lab × Lab)} {ob : Nat → Ob} (h : Objs g H labs ob) (k_ : KeepsO H H') {L L1 L2 : Lab} {o : Ob} (ho : ObAt H' L L1 L2 o) (hob : ob labs.length = o) (hne : L1 ≠ L2)
    (hn : H.con L = .none ∧ H.con L1 = .none ∧ H.con L2 = .none) (hg : Keeps g H) : Objs g H' (labs ++ [(L, L1, L2)]) ob := by
  have hnew : ∀ x ∈ tri (L, L1, L2), H.con x = .none := by
    intro x hx
    simp only [tri, List.mem_cons, List.not_mem_nil, or_false] at hx
    rcases hx with rfl | rfl | rfl
    · exact hn.1
    · exact hn.2.1
    · exact hn.2.2
  have hfr : ∀ j, (hj : j < labs.length) → ∀ x ∈ tri labs[j], x ∉ tri (L, L1, L2) := fun j hj x hx hx2 => (h.obj j hj).live x hx (hnew x hx2)
  have cases_ : ∀ k, k < (labs ++ [(L, L1, L2)]).length → (∃ hk : k < labs.length, (labs ++ [(L, L1, L2)])[k]? = some labs[k]) ∨ (k = labs.length ∧ (labs ++ [(L, L1, L2)])[k]? = some (L, L1, L2)) := by
    intro k hk
    rcases Nat.lt_or_ge k labs.length with h1 | h1
    · exact .inl ⟨h1, by rw [List.getElem?_append_left h1, List.getElem?_eq_getElem h1]⟩
    · have : k = labs.length := by simp at hk; omega
      exact .inr ⟨this, by rw [this]; simp⟩
  have at_ : ∀ k (hk : k < (labs ++ [(L, L1, L2)]).length) y, (labs ++ [(L, L1, L2)])[k]? = some y → (labs ++ [(L, L1, L2)])[k] = y := fun k hk y hy => by rw [List.getElem?_eq_getElem hk] at hy; exact Option.some.inj hy
  refine ⟨fun k hk => ?_, fun k hk => ?_, fun k hk => ?_, fun j k hj hk hjk => ?_⟩
  · rcases cases_ k hk with ⟨h1, h2⟩ | ⟨h1, h2⟩
    · rw [at_ k hk _ h2]; exact (h.obj k h1).keep k_
    · rw [at_ k hk _ h2, h1, hob]; exact ho
  · rcases cases_ k hk with ⟨h1, h2⟩ | ⟨h1, h2⟩
    · rw [at_ k hk _ h2]; exact h.ne k h1
    · rw [at_ k hk _ h2]; exact hne
  · rcases cases_ k hk with ⟨h1, h2⟩ | ⟨h1, h2⟩
    · rw [at_ k hk _ h2]; exact h.new k h1
    · rw [at_ k hk _ h2]; intro x hx
      rcases hg x with h3 | h3
      · exact h3
      · rw [← h3]; exact hnew x hx
  · rcases cases_ j hj with ⟨h1, h2⟩ | ⟨h1, h2⟩ <;> rcases cases_ k hk with ⟨h3, h4⟩ | ⟨h3, h4⟩
    · rw [at_ j hj _ h2, at_ k hk _ h4]; exact h.dis j k h1 h3 hjk
    · rw [at_ j hj _ h2, at_ k hk _ h4]; exact hfr j h1
    · rw [at_ j hj _ h2, at_ k hk _ h4]; exact fun x hx hx2 => hfr k h3 x hx2 hx
    · omega
theorem Objs.step {g H H' : Hp} {labs : List (Lab × Lab × Lab)} {ob ob' : Nat → Ob} (h : Objs g H labs ob) {k : Nat} (hk : k < labs.length) (hF : Fr [labs[k].1, labs[k].2.1, labs[k].2.2] H H')
    (ho : ObAt H' labs[k].1 labs[k].2.1 labs[k].2.2 (ob' k)) (hob : ∀ j, j ≠ k → ob' j = ob j) : Objs g H' labs ob' := by
  refine ⟨fun j hj => ?_, h.ne, h.new, h.dis⟩
  by_cases hjk : j = k
  · subst hjk; exact ho
  · rw [hob j hjk]
    have hd := h.dis j k hj hk hjk
    have hl := (h.obj j hj).live
    have same : ∀ x ∈ tri labs[j], H'.con x = H.con x := fun x hx => by
      rcases hF x with h1 | h1 | h1
      · exact absurd h1 (hd x hx)
      · exact absurd h1 (hl x hx)
      · exact h1
    have hO := h.obj j hj
    refine ⟨?_, ?_, ?_, hO.len⟩
    · rw [same _ (by simp [tri])]; exact hO.con
    · rw [same _ (by simp [tri])]; exact hO.m1
    · rw [same _ (by simp [tri])]; exact hO.m2

theorem obOf_nil (home : Int) (k : Int) : obOf home k [] = ⟨List.replicate 32 0, [], [], home, 0, true, home⟩ := by
  unfold obOf
  simp only [List.filter_nil, List.map_nil, atOf, List.foldl_nil, Ob.mk.injEq, and_true]
  rw [List.eq_replicate_iff]
  refine ⟨by simp, fun b hb => ?_⟩
  simp only [List.mem_map] at hb
  obtain ⟨v, _, rfl⟩ := hb
  simp [madeN]

set_option linter.unusedSimpArgs false
def ptA (t : Lab × Lab × Lab) : AV := .pt t.1 0 0 0
@[go_sem] theorem ptA_cells (t : Lab × Lab × Lab) : (ptA t).cells = [.pt t.1 0 0 0] := by simp [ptA, AV.cells]
/-- The list of objects: none yet, or a slice of one's own. -/
def ObS (g H : Hp) (v : AV) (labs : List (Lab × Lab × Lab)) : Prop :=
  (labs = [] ∧ v = .l true 0 []) ∨ ∃ Lo, v = .os Lo ∧ H.con Lo = .arr 1 (labs.map ptA) ∧ g.con Lo = .none
def ob0 (homes : List Int) (ns : List Note) (k : Nat) : Ob := obOf (homes.getD k 0) k ns

set_option maxRecDepth 10000 in
set_option maxHeartbeats 8000000 in
theorem f13_spec (homes : List Int) (eh : Bool) (ns : List Note) (ex : Bool) (hlen : ns.length < 2 ^ 60) :
    PureF Try.prog 13 [.l eh 1 (homes.map I), .l ex 6 (ns.map encN)] (pairV (checkR homes ns)) := by
  refine PureF.of_awp mixed (fun _ => []) (fn := Try.f13) (by kernel_rfl) rfl (by kernel_rfl) (by show 2 ≤ _; decide) (by simp [AV.lf, AV.lfs, pairV]) (fun h => ?_)
  refine awp_cut (fun s => s.slots 0 = .l eh 1 (homes.map I) ∧ s.slots 1 = .l ex 6 (ns.map encN) ∧ s.hp = h) ?_ ?_
  · simp only [go_sem, Nat.reduceAdd, Nat.reduceBEq, Nat.reduceEqDiff, Nat.reduceLeDiff, Nat.reduceLT, Nat.reduceSub]
  rintro s ⟨h0, h1, hE⟩
  refine awp_cut (fun s => s.slots 0 = .l eh 1 (homes.map I) ∧ s.slots 1 = .l ex 6 (ns.map encN) ∧ s.slots 6 = .l true 0 [] ∧ s.hp = h) ?_ ?_
  · simp only [go_sem, h0, h1, hE, Nat.reduceAdd, Nat.reduceBEq, Nat.reduceEqDiff, Nat.reduceLeDiff, Nat.reduceLT, Nat.reduceSub]
  clear h0 h1 hE
  rintro s ⟨h0, h1, h6, hE⟩
  refine awp_cut (fun s => s.slots 0 = .l eh 1 (homes.map I) ∧ s.slots 1 = .l ex 6 (ns.map encN) ∧ badHomes homes = false ∧ ∃ labs, labs.length = homes.length ∧ ObS h s.hp (s.slots 6) labs ∧ Objs h s.hp labs (ob0 homes []) ∧ Keeps h s.hp) ?_ ?_
  · simp only [go_sem, h0, h1, h6, hE, Nat.reduceAdd, Nat.reduceBEq, Nat.reduceEqDiff, Nat.reduceLeDiff, Nat.reduceLT, Nat.reduceSub]
    rw [awp_loop]
    refine ⟨fun s => ∃ i : Nat, i ≤ homes.length ∧ s.slots 0 = .l eh 1 (homes.map I) ∧ s.slots 1 = .l ex 6 (ns.map encN) ∧ s.slots 11 = .l eh 1 (homes.map I) ∧ s.slots 12 = .int .i64 homes.length ∧ s.slots 13 = .int .i64 i ∧
      (homes.take i).any (fun h => decide (h < 0) || decide (32 ≤ h)) = false ∧ (i = 0 ∨ homes.length ≤ 8) ∧ ∃ labs, labs.length = i ∧ ObS h s.hp (s.slots 6) labs ∧ Objs h s.hp labs (ob0 homes []) ∧ Keeps h s.hp,
      fun s => match s.slots 13 with | .int _ i => (homes.length - i).toNat | _ => 0, ?_, ?_⟩
    · refine ⟨0, ?_⟩
      simp only [go_sem, h0, h1, h6, hE, Nat.reduceAdd, Nat.reduceBEq, Nat.reduceEqDiff, Nat.reduceLeDiff, Nat.reduceLT, Nat.reduceSub]
      exact ⟨by omega, rfl, rfl, .inl trivial, [], rfl, .inl ⟨rfl, rfl⟩, Objs.nil _ _ _, Keeps.refl h⟩
    · clear h0 h1 h6 hE
      rintro s ⟨i, hi, h0, h1, h11, h12, h13, hb, hle, labs, hll, hS, hO, hH⟩
      by_cases hlt : i < homes.length
      · have e0 : decide ((i : Int) < homes.length) = true := by simpa using hlt
        have hw : IntKind.i64.wrap ((i : Int) + 1) = ((i + 1 : Nat) : Int) := by
          rcases hle with h2 | h2
          · subst h2; decide
          · exact wrapS (by omega)
        have hdec : (((homes.length : Int) - ((i + 1 : Nat) : Int)).toNat < ((homes.length : Int) - (i : Int)).toNat) := by omega
        have hst : (homes.take (i + 1)).any (fun h => decide (h < 0) || decide (32 ≤ h)) = (decide (homes[i] < 0) || decide (32 ≤ homes[i])) := by
          rw [List.take_succ_eq_append_getElem hlt, List.any_append, hb]; simp
        have hbad : (decide (homes[i] < 0) || decide (32 ≤ homes[i])) = true → checkR homes ns = (0, 1) := fun hc => checkR_bad (by
          simp only [badHomes, Bool.or_eq_true]; right
          exact List.any_eq_true.2 ⟨homes[i], List.getElem_mem hlt, hc⟩)
        have hbad8 : decide ((homes.length : Int) > 8) = true → checkR homes ns = (0, 1) := fun hc => checkR_bad (by
          simp only [badHomes, Bool.or_eq_true]; left
          simp at hc ⊢; omega)
        rcases two (decide (homes[i] < 0)) (decide (homes[i] ≥ 32)) with b1 | ⟨b1, b2⟩ | ⟨b1, b2⟩
        · rcases two (decide (homes[i] ≥ 32)) (decide ((homes.length : Int) > 8)) with b2 | ⟨b2, b3⟩ | ⟨b2, b3⟩
          · cases b3 : decide ((homes.length : Int) > 8)
            · have b2' : decide (32 ≤ homes[i]) = false := b2
              rw [b1, b2'] at hst
              have h8 : homes.length ≤ 8 := by simp at b3; omega
              simp only [go_sem, e0, b1, b2, b3, hw, h0, h1, h11, h12, h13, I_cells, Nat.reduceAdd, Nat.reduceBEq, Nat.reduceEqDiff, Nat.reduceLeDiff, Nat.reduceLT, Nat.reduceSub]
              refine ⟨by omega, hlt, CallX.of (f37_spec homes[i] s.hp _ (fun L L1 L2 h' c0 c1 c2 c3 c4 c5 c6 c7 => ?_))⟩
              have hob : ObAt h' L L1 L2 (ob0 homes [] labs.length) := by
                have hgd : homes.getD i 0 = homes[i] := by rw [List.getD_eq_getElem?_getD, List.getElem?_eq_getElem hlt]; rfl
                unfold ob0
                rw [obOf_nil, hll, hgd]
                exact ⟨c0, c1, c2, by simp⟩
              have hO2 := hO.push (Keeps.toO c7) hob rfl c3 ⟨c4, c5, c6⟩ hH
              have hH2 : Keeps h h' := fun M => by
                rcases hH M with h2 | h2
                · exact .inl h2
                · rcases c7 M with h3 | h3
                  · left; rw [← h2]; exact h3
                  · right; rw [h3, h2]
              rcases hS with ⟨hS1, hS2⟩ | ⟨Lo, hS1, hS2, hS3⟩
              · simp only [go_sem, hS2, e0, b1, b2, b3, hw, h0, h1, h11, h12, h13, I_cells, Nat.reduceAdd, Nat.reduceBEq, Nat.reduceEqDiff, Nat.reduceLeDiff, Nat.reduceLT, Nat.reduceSub]
                refine ⟨by decide, by decide, ⟨i + 1, hlt, rfl, hst, .inr h8, labs ++ [(L, L1, L2)], by simp [hll], .inr ⟨_, rfl, by simp [Hp.alloc, ptA, hS1], hH2.new 13 32⟩, hO2.keep (Keeps.toO ((Keeps.refl h').alloc _ _ _)), hH2.alloc _ _ _⟩, hdec⟩
              · have hLo : h'.con Lo = .arr 1 (labs.map ptA) := by
                  rcases c7 Lo with h2 | h2
                  · rw [hS2] at h2; simp at h2
                  · rw [h2, hS2]
                simp only [go_sem, hS1, hLo, e0, b1, b2, b3, hw, h0, h1, h11, h12, h13, I_cells, Nat.reduceAdd, Nat.reduceBEq, Nat.reduceEqDiff, Nat.reduceLeDiff, Nat.reduceLT, Nat.reduceSub]
                refine ⟨by decide, by omega, by omega, ⟨i + 1, hlt, rfl, hst, .inr h8, labs ++ [(L, L1, L2)], by simp [hll], .inr ⟨_, rfl, by simp [Hp.alloc, Hp.set, ptA], hH2.new 13 32⟩, hO2.keep (KeepsO.arr hLo _ _ _ _), (hH2.set hS3 _).alloc _ _ _⟩, hdec⟩
            · have hbad := hbad8 b3
              simp only [go_sem, hbad, pairV, e0, b1, b2, b3, hw, h0, h1, h11, h12, h13, I_cells, Nat.reduceAdd, Nat.reduceBEq, Nat.reduceEqDiff, Nat.reduceLeDiff, Nat.reduceLT, Nat.reduceSub]
              exact ⟨by omega, hlt, hH⟩
          all_goals
            have b2' : decide (32 ≤ homes[i]) = true := b2
            have hbad := hbad (by rw [b1, b2']; rfl)
            simp only [go_sem, hbad, pairV, e0, b1, b2, hw, h0, h1, h11, h12, h13, I_cells, Nat.reduceAdd, Nat.reduceBEq, Nat.reduceEqDiff, Nat.reduceLeDiff, Nat.reduceLT, Nat.reduceSub]
            exact ⟨by omega, hlt, hH⟩
        all_goals
          have hbad := hbad (by rw [b1]; rfl)
          simp only [go_sem, hbad, pairV, e0, b1, b2, hw, h0, h1, h11, h12, h13, I_cells, Nat.reduceAdd, Nat.reduceBEq, Nat.reduceEqDiff, Nat.reduceLeDiff, Nat.reduceLT, Nat.reduceSub]
          exact ⟨by omega, hlt, hH⟩
      · have e0 : decide ((i : Int) < homes.length) = false := by simpa using hlt
        have : i = homes.length := by omega
        subst this
        rw [List.take_length] at hb
        have hbh : badHomes homes = false := by
          simp only [badHomes, hb, Bool.or_false, decide_eq_false_iff_not]; omega
        simp only [go_sem, e0, h0, h1, h11, h12, h13, Nat.reduceAdd, Nat.reduceBEq, Nat.reduceEqDiff, Nat.reduceLeDiff, Nat.reduceLT, Nat.reduceSub]
        exact ⟨hbh, labs, hll, hS, hO, hH⟩
  clear h0 h1 h6 hE
  rintro s ⟨h0, h1, hbh, labs, hll, hS, hO, hH⟩
  have h8 : homes.length ≤ 8 := by
    simp only [badHomes, Bool.or_eq_false_iff, decide_eq_false_iff_not] at hbh; omega
  simp only [go_sem, h0, h1, Nat.reduceAdd, Nat.reduceBEq, Nat.reduceEqDiff, Nat.reduceLeDiff, Nat.reduceLT, Nat.reduceSub]
  rw [awp_loop]
  refine ⟨fun s => ∃ i : Nat, i ≤ ns.length ∧ s.slots 0 = .l eh 1 (homes.map I) ∧ s.slots 1 = .l ex 6 (ns.map encN) ∧ s.slots 34 = .l ex 6 (ns.map encN) ∧ s.slots 35 = .int .i64 ns.length ∧ s.slots 36 = .int .i64 i ∧
      (∀ j, j < i → goodAt homes ns j = true) ∧ Go.Gh.Good (ns.take i) ∧ ObS h s.hp (s.slots 6) labs ∧ Objs h s.hp labs (ob0 homes (ns.take i)) ∧ Keeps h s.hp,
      fun s => match s.slots 36 with | .int _ i => (ns.length - i).toNat | _ => 0, ?_, ?_⟩
  · refine ⟨0, ?_⟩
    simp only [go_sem, h0, h1, Nat.reduceAdd, Nat.reduceBEq, Nat.reduceEqDiff, Nat.reduceLeDiff, Nat.reduceLT, Nat.reduceSub]
    exact ⟨by omega, rfl, fun j hj => by omega, fun x hx => by simp at hx, hS, hO, hH⟩
  · clear h0 h1 hS hO hH
    rintro s ⟨i, hi, h0, h1, h34, h35, h36, hg, hgood, hS, hO, hH⟩
    by_cases hlt : i < ns.length
    · have e0 : decide ((i : Int) < ns.length) = true := by simpa using hlt
      have hw : IntKind.i64.wrap ((i : Int) + 1) = ((i + 1 : Nat) : Int) := wrapS (by omega)
      have hdec : (((ns.length : Int) - ((i + 1 : Nat) : Int)).toNat < ((ns.length : Int) - (i : Int)).toNat) := by omega
      have hv := hH.var 13 10 (.blk [.int .i64 0, .int .i64 0, .int .i64 0, .int .i64 0, .int .i64 0, .int .i64 0]) (.blk [.int .i64 ns[i].kind, .int .i64 ns[i].obj, .int .i64 ns[i].node, .int .i64 ns[i].num, .int .i64 ns[i].to, .int .i64 ns[i].next])
      have hge := goodAt_eq (homes := homes) hlt
      have hbad : goodAt homes ns i = false → checkR homes ns = ((i : Int), 25) := fun hb => checkR_at hbh hlt hg hb
      have hnext : goodAt homes ns i = true → ∀ j, j < i + 1 → goodAt homes ns j = true := fun hb j hj => by
        rcases Nat.lt_or_ge j i with h1 | h1
        · exact hg j h1
        · have : j = i := by omega
          subst this; exact hb
      cases b1 : decide (ns[i].obj < 0)
      · cases b2 : decide (ns[i].obj ≥ homes.length)
        · have o0 : 0 ≤ ns[i].obj := by simpa using b1
          have o1 : ns[i].obj < homes.length := by simpa using b2
          have hkl : ns[i].obj.toNat < homes.length := by omega
          rcases hS with ⟨hS1, hS2⟩ | ⟨Lo, hS1, hS2, hS3⟩
          · subst hS1; simp at hll; omega
          have hneo := lab_ne (show (s.hp.con Lo).live by rw [hS2]; trivial)
          have hk : ns[i].obj.toNat < labs.length := by omega
          have hv0 := Keeps.var (Keeps.refl s.hp) 13 10 (.blk [.int .i64 0, .int .i64 0, .int .i64 0, .int .i64 0, .int .i64 0, .int .i64 0]) (.blk [.int .i64 ns[i].kind, .int .i64 ns[i].obj, .int .i64 ns[i].node, .int .i64 ns[i].num, .int .i64 ns[i].to, .int .i64 ns[i].next])
          have hOk := (hO.keep (Keeps.toO hv0)).obj _ hk
          have hkI : ((ns[i].obj.toNat : Nat) : Int) = ns[i].obj := by omega
          have hoe : ob0 homes (ns.take i) ns[i].obj.toNat = obOf homes[ns[i].obj.toNat] ns[i].obj (ns.take i) := by
            unfold ob0
            rw [hkI, List.getD_eq_getElem?_getD, List.getElem?_eq_getElem hkl]; rfl
          have hin := homes_in hbh hkl
          have hcan := noteF_can hin.1 hin.2 hgood ns[i]
          have hcg : checkB homes (ns.take i) ns[i] = canB homes[ns[i].obj.toNat] (ns.take i) ns[i] := by
            have e1 : decide (ns[i].obj < homes.length) = true := by simpa using o1
            simp [checkB, o0, e1, hkl]
          have hbd : ∀ m ∈ (ob0 homes (ns.take i) ns[i].obj.toNat).made, 0 ≤ m ∧ m < 2 ^ 61 := by
            intro m hm
            rw [hoe] at hm
            simp only [obOf, List.mem_map] at hm
            obtain ⟨v, _, rfl⟩ := hm
            have := madeN_le (ns.take i) ns[i].obj v
            simp at this
            omega
          simp only [go_sem, hneo, hS1, hS2, hll, e0, b1, b2, hw, h0, h1, h34, h35, h36, encN_cells, Nat.reduceAdd, Nat.reduceBEq, Nat.reduceEqDiff, Nat.reduceLeDiff, Nat.reduceLT, Nat.reduceSub]
          refine ⟨by omega, hlt, o0, hkl, hkl, CallX.of (f38_spec _ _ _ (hO.ne _ hk) _ _ hOk hbd ns[i] _ (fun hn h' hF => ?_) (fun o' hy h' hO' hF => ?_))⟩
          · rw [hoe, hcan] at hn
            have hcf : canB homes[ns[i].obj.toNat] (ns.take i) ns[i] = false := by
              cases hc : canB homes[ns[i].obj.toNat] (ns.take i) ns[i]
              · rfl
              · rw [hc] at hn; simp at hn
            have hr := hbad (by rw [hge, hcg, hcf])
            simp only [go_sem, hr, pairV, e0, b1, b2, hw, h0, h1, h34, h35, h36, Nat.reduceAdd, Nat.reduceBEq, Nat.reduceEqDiff, Nat.reduceLeDiff, Nat.reduceLT, Nat.reduceSub]
            exact hF.keeps hv (fun x hx => hO.new _ hk x hx)
          · rw [hoe, hcan] at hy
            have hct : canB homes[ns[i].obj.toNat] (ns.take i) ns[i] = true := by
              cases hc : canB homes[ns[i].obj.toNat] (ns.take i) ns[i]
              · rw [hc] at hy; simp at hy
              · rfl
            rw [hct] at hy
            simp only [if_true, Option.some.injEq] at hy
            have htk : ns.take (i + 1) = ns.take i ++ [ns[i]] := List.take_succ_eq_append_getElem hlt
            rw [← htk] at hy
            have hgn : Go.Gh.Good (ns.take (i + 1)) := by rw [htk]; exact good_snoc hgood hct
            have hoe' : ob0 homes (ns.take (i + 1)) ns[i].obj.toNat = o' := by
              rw [← hy]
              unfold ob0
              rw [hkI, List.getD_eq_getElem?_getD, List.getElem?_eq_getElem hkl]; rfl
            have hoj : ∀ j, j ≠ ns[i].obj.toNat → ob0 homes (ns.take (i + 1)) j = ob0 homes (ns.take i) j := fun j hj => by
              unfold ob0
              rw [htk]; exact obOf_other _ _ _ _ (by omega)
            have hOn := (hO.keep (Keeps.toO hv0)).step hk hF (by rw [hoe']; exact hO') hoj
            have hLo2 : h'.con Lo = .arr 1 (labs.map ptA) := by
              have g1 : (((s.hp.alloc 13 10 (.blk [.int .i64 0, .int .i64 0, .int .i64 0, .int .i64 0, .int .i64 0, .int .i64 0])).set ⟨13, 10, s.hp.cnt 13 10⟩ (.blk [.int .i64 ns[i].kind, .int .i64 ns[i].obj, .int .i64 ns[i].node, .int .i64 ns[i].num, .int .i64 ns[i].to, .int .i64 ns[i].next]))).con Lo = .arr 1 (labs.map ptA) := by
                simp only [go_sem, hneo, hS2]
              rcases hF Lo with h2 | h2 | h2
              · exact absurd g1 (fun g1 => by
                  simp only [List.mem_cons, List.not_mem_nil, or_false] at h2
                  rcases h2 with h2 | h2 | h2
                  · rw [h2, hOk.con] at g1; simp at g1
                  · rw [h2, hOk.m1] at g1; simp at g1
                  · rw [h2, hOk.m2] at g1; simp at g1)
              · rw [g1] at h2; simp at h2
              · rw [h2]; exact g1
            simp only [go_sem, e0, b1, b2, hw, h0, h1, h34, h35, h36, Nat.reduceAdd, Nat.reduceBEq, Nat.reduceEqDiff, Nat.reduceLeDiff, Nat.reduceLT, Nat.reduceSub]
            exact ⟨⟨i + 1, hlt, rfl, hnext (by rw [hge, hcg, hct]), hgn, .inr ⟨Lo, by simp only [go_sem, hS1, Nat.reduceAdd, Nat.reduceBEq, Nat.reduceEqDiff, Nat.reduceLeDiff, Nat.reduceLT, Nat.reduceSub], hLo2, hS3⟩, hOn, hF.keeps hv (fun x hx => hO.new _ hk x hx)⟩, hdec⟩
        · have hgb : goodAt homes ns i = false := by
            rw [hge]; simp only [checkB]
            have : decide (ns[i].obj < homes.length) = false := by simpa using b2
            rw [this]; simp
          rcases hS with ⟨hS1, hS2⟩ | ⟨Lo, hS1, hS2, hS3⟩
          · subst hS1
            simp at hll
            have b2' : decide (ns[i].obj ≥ ((0 : Nat) : Int)) = true := by rw [hll]; exact b2
            have hr := hbad hgb
            simp only [go_sem, hr, pairV, hS2, e0, b1, b2', hw, h0, h1, h34, h35, h36, encN_cells, Nat.reduceAdd, Nat.reduceBEq, Nat.reduceEqDiff, Nat.reduceLeDiff, Nat.reduceLT, Nat.reduceSub]
            exact ⟨by omega, hlt, hv⟩
          · have hneo := lab_ne (show (s.hp.con Lo).live by rw [hS2]; trivial)
            have hr := hbad hgb
            simp only [go_sem, hr, pairV, hneo, hS1, hS2, hll, e0, b1, b2, hw, h0, h1, h34, h35, h36, encN_cells, Nat.reduceAdd, Nat.reduceBEq, Nat.reduceEqDiff, Nat.reduceLeDiff, Nat.reduceLT, Nat.reduceSub]
            exact ⟨by omega, hlt, hv⟩
      · have hgb : goodAt homes ns i = false := by
          rw [hge]; simp only [checkB]
          have : decide (0 ≤ ns[i].obj) = false := by simpa using b1
          rw [this]; simp
        have hr := hbad hgb
        simp only [go_sem, hr, pairV, e0, b1, hw, h0, h1, h34, h35, h36, encN_cells, Nat.reduceAdd, Nat.reduceBEq, Nat.reduceEqDiff, Nat.reduceLeDiff, Nat.reduceLT, Nat.reduceSub]
        exact ⟨by omega, hlt, hv⟩
    · have e0 : decide ((i : Int) < ns.length) = false := by simpa using hlt
      have : i = ns.length := by omega
      subst this
      have hr := checkR_ok hbh hg
      simp only [go_sem, hr, pairV, e0, h0, h1, h34, h35, h36, Nat.reduceAdd, Nat.reduceBEq, Nat.reduceEqDiff, Nat.reduceLeDiff, Nat.reduceLT, Nat.reduceSub]
      exact hH
end Go.Proofs.Ytmajndgdfmnchaa
