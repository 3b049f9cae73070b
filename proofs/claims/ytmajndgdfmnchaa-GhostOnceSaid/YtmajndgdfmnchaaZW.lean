/- GhostOnce. -/
import Derived.Test.YtmajndgdfmnchaaZQ
import Derived.Test.YtmajndgdfmnchaaT3
namespace Go.Proofs.Ytmajndgdfmnchaa
open Go Go.T Go.Gh Go.Proofs
set_option linter.unusedSimpArgs false
@[go_sem] theorem res5 : Try.f5.results = #[.cell 6 4] := by kernel_rfl
/-- The list of requests under way. -/
def AllS (h H : Hp) (v : AV) (out : List (Int × Int)) : Prop := (out = [] ∧ v = .l true 0 []) ∨ ∃ Lo : Lab, Lo.f = 5 ∧ v = .os Lo ∧ H.con Lo = .arr 2 (out.map pairA) ∧ h.con Lo = .none
set_option maxRecDepth 10000 in
set_option maxHeartbeats 8000000 in
theorem f5_spec (homes : List Int) (eh : Bool) (ns : List Note) (ex : Bool) (obj : Int) :
    PureF Try.prog 5 [.l eh 1 (homes.map I), .l ex 6 (ns.map encN), .int .i64 obj] (.bool true) := by
  refine PureF.of_awp mixed (fun _ => []) (fn := Try.f5) (by kernel_rfl) rfl (by kernel_rfl) (by show 3 ≤ _; decide) (by simp [AV.lf]) (fun h => ?_)
  have lp13 : (lpSlot = 13) = False := lpSlot_ne (by decide)
  have lp13' : (13 = lpSlot) = False := ne_lpSlot (by decide)
  refine awp_cut (fun s => s.slots 0 = .l eh 1 (homes.map I) ∧ s.slots 1 = .l ex 6 (ns.map encN) ∧ s.slots 2 = .int .i64 obj ∧ (∃ L6 : Lab, L6.f = 5 ∧ h.con L6 = .none ∧ s.slots 6 = .pt L6 0 0 0 ∧ s.hp.con L6 = .blk [.bool false]) ∧ Keeps h s.hp) ?_ ?_
  · simp only [go_sem, Nat.reduceAdd, Nat.reduceBEq, Nat.reduceEqDiff, Nat.reduceLeDiff, Nat.reduceLT, Nat.reduceSub, Int.reduceToNat]
    exact ⟨⟨_, rfl, h.ok _ (by simp), rfl, by simp⟩, (Keeps.refl h).alloc _ _ _⟩
  rintro s ⟨h0, h1, h2, ⟨L6, f6, n6, h6, c6⟩, hH⟩
  refine awp_cut (fun s => s.slots 0 = .l eh 1 (homes.map I) ∧ s.slots 1 = .l ex 6 (ns.map encN) ∧ s.slots 2 = .int .i64 obj ∧ s.slots 6 = .pt L6 0 0 0 ∧ s.hp.con L6 = .blk [.bool false] ∧ Keeps h s.hp) ?_ ?_
  · simp only [go_sem, h0, h1, h2, h6, c6, Nat.reduceAdd, Nat.reduceBEq, Nat.reduceEqDiff, Nat.reduceLeDiff, Nat.reduceLT, Nat.reduceSub, Int.reduceToNat]
    refine CallX.pure f12_spec ?_
    simp only [go_sem, h0, h1, h2, h6, c6, Nat.reduceAdd, Nat.reduceBEq, Nat.reduceEqDiff, Nat.reduceLeDiff, Nat.reduceLT, Nat.reduceSub, Int.reduceToNat]
    exact hH
  clear h0 h1 h2 h6 c6 hH
  rintro s ⟨h0, h1, h2, h6, c6, hH⟩
  cases b : decide ((ns.length : Int) > 512)
  rotate_left
  · simp only [go_sem, b, h0, h1, h2, h6, c6, Nat.reduceAdd, Nat.reduceBEq, Nat.reduceEqDiff, Nat.reduceLeDiff, Nat.reduceLT, Nat.reduceSub, Int.reduceToNat]
    exact hH.set n6 _
  have hlen : ns.length < 2 ^ 30 := by simp at b; omega
  refine awp_cut (fun s => s.slots 0 = .l eh 1 (homes.map I) ∧ s.slots 1 = .l ex 6 (ns.map encN) ∧ s.slots 2 = .int .i64 obj ∧ s.slots 6 = .pt L6 0 0 0 ∧ s.hp.con L6 = .blk [.bool false] ∧ Keeps h s.hp) ?_ ?_
  · simp only [go_sem, b, h0, h1, h2, h6, c6, Nat.reduceAdd, Nat.reduceBEq, Nat.reduceEqDiff, Nat.reduceLeDiff, Nat.reduceLT, Nat.reduceSub, Int.reduceToNat]
    exact hH
  clear h0 h1 h2 h6 c6 hH
  rintro s ⟨h0, h1, h2, h6, c6, hH⟩
  refine awp_cut (fun s => s.slots 0 = .l eh 1 (homes.map I) ∧ s.slots 1 = .l ex 6 (ns.map encN) ∧ s.slots 2 = .int .i64 obj ∧ s.slots 6 = .pt L6 0 0 0 ∧ s.slots 8 = .int .i64 (checkR homes ns).2 ∧ s.hp.con L6 = .blk [.bool false] ∧ Keeps h s.hp) ?_ ?_
  · simp only [go_sem, b, h0, h1, h2, h6, c6, Nat.reduceAdd, Nat.reduceBEq, Nat.reduceEqDiff, Nat.reduceLeDiff, Nat.reduceLT, Nat.reduceSub, Int.reduceToNat]
    refine CallX.pure (f13_spec homes eh ns ex (by omega)) ?_
    simp only [go_sem, pairV, h0, h1, h2, h6, c6, Nat.reduceAdd, Nat.reduceBEq, Nat.reduceEqDiff, Nat.reduceLeDiff, Nat.reduceLT, Nat.reduceSub, Int.reduceToNat]
    exact hH
  clear h0 h1 h2 h6 c6 hH
  rintro s ⟨h0, h1, h2, h6, h8, c6, hH⟩
  by_cases hgo : ¬ ((checkR homes ns).2 = 0 ∧ 0 ≤ obj ∧ obj < homes.length)
  · cases b1 : ((checkR homes ns).2 != 0)
    · cases b2 : decide (obj < 0)
      · have b3 : decide (obj ≥ homes.length) = true := by simp at b1 b2 ⊢; omega
        simp only [go_sem, b1, b2, b3, h0, h1, h2, h6, h8, c6, Nat.reduceAdd, Nat.reduceBEq, Nat.reduceEqDiff, Nat.reduceLeDiff, Nat.reduceLT, Nat.reduceSub, Int.reduceToNat]
        exact hH.set n6 _
      · simp only [go_sem, b1, b2, h0, h1, h2, h6, h8, c6, Nat.reduceAdd, Nat.reduceBEq, Nat.reduceEqDiff, Nat.reduceLeDiff, Nat.reduceLT, Nat.reduceSub, Int.reduceToNat]
        exact hH.set n6 _
    · simp only [go_sem, b1, h0, h1, h2, h6, h8, c6, Nat.reduceAdd, Nat.reduceBEq, Nat.reduceEqDiff, Nat.reduceLeDiff, Nat.reduceLT, Nat.reduceSub, Int.reduceToNat]
      exact hH.set n6 _
  have hgo := Classical.not_not.1 hgo
  obtain ⟨hck, ho⟩ := hgo
  have hHist := hist_of_ok (checkR_err homes ns hck)
  have b1 : ((checkR homes ns).2 != 0) = false := by simp [hck]
  have b2 : decide (obj < 0) = false := by simp; omega
  have b3 : decide (obj ≥ homes.length) = false := by simp; omega
  have hfirst := queue_first (ns := ns) ho
  have hne_ := queue_ne hHist ho
  have hnext := got_next hHist ho
  have hqlen : (queueR homes ns obj).length ≤ ns.length + 1 := by
    unfold queueR; rw [if_pos ho]; exact queueL_length _ _ _ _
  generalize hqs : queueR homes ns obj = qs at *
  have hf16 := f16_spec homes eh ns ex obj hlen
  rw [show AV.fn (.func 41) [.ip [.int .i64 (if 0 ≤ obj ∧ obj < homes.length then homes.getD obj.toNat 0 else 0)], .ip [.bool (decide (0 ≤ obj ∧ obj < homes.length))], .ip [.l false 6 (ns.map encN)], .ip [.int .i64 obj]] = QV homes ns obj from rfl] at hf16
  refine awp_cut (fun s => s.slots 0 = .l eh 1 (homes.map I) ∧ s.slots 1 = .l ex 6 (ns.map encN) ∧ s.slots 2 = .int .i64 obj ∧ s.slots 6 = .pt L6 0 0 0 ∧ s.hp.con L6 = .blk [.bool false] ∧ Keeps h s.hp) ?_ ?_
  · simp only [go_sem, b1, b2, b3, h0, h1, h2, h6, h8, c6, Nat.reduceAdd, Nat.reduceBEq, Nat.reduceEqDiff, Nat.reduceLeDiff, Nat.reduceLT, Nat.reduceSub, Int.reduceToNat]
    exact hH
  clear h0 h1 h2 h6 h8 c6 hH
  rintro s ⟨h0, h1, h2, h6, c6, hH⟩
  refine awp_cut (fun s => s.slots 0 = .l eh 1 (homes.map I) ∧ s.slots 1 = .l ex 6 (ns.map encN) ∧ s.slots 2 = .int .i64 obj ∧ s.slots 6 = .pt L6 0 0 0 ∧ s.hp.con L6 = .blk [.bool false] ∧
    (∃ L9 : Lab, L9.f = 5 ∧ h.con L9 = .none ∧ s.slots 9 = .pt L9 0 0 0 ∧ s.hp.con L9 = .blk [.l true 0 []] ∧ L6 ≠ L9) ∧ Keeps h s.hp) ?_ ?_
  · have hne6 := lab_ne (show (s.hp.con L6).live by rw [c6]; trivial)
    simp only [go_sem, hne6, h0, h1, h2, h6, c6, Nat.reduceAdd, Nat.reduceBEq, Nat.reduceEqDiff, Nat.reduceLeDiff, Nat.reduceLT, Nat.reduceSub, Int.reduceToNat]
    exact ⟨⟨_, rfl, hH.new 5 9, rfl, by simp, fun e => by have := hne6 5 9; rw [← this]; exact e⟩, hH.alloc _ _ _⟩
  clear h0 h1 h2 h6 c6 hH
  rintro s ⟨h0, h1, h2, h6, c6, ⟨L9, f9, n9, h9, c9, d69⟩, hH⟩
  have n69 : (L6 = L9) = False := eq_false d69
  have n96 : (L9 = L6) = False := eq_false (fun e => d69 e.symm)
  refine awp_cut (fun s => s.slots 0 = .l eh 1 (homes.map I) ∧ s.slots 1 = .l ex 6 (ns.map encN) ∧ s.slots 2 = .int .i64 obj ∧ s.slots 6 = .pt L6 0 0 0 ∧ s.hp.con L6 = .blk [.bool false] ∧
    s.slots 9 = .pt L9 0 0 0 ∧ (∃ Lo : Lab, s.hp.con L9 = .blk [.os Lo] ∧ s.hp.con Lo = .arr 2 (qs.map pairA)) ∧ Keeps h s.hp) ?_ ?_
  · have hne6 := lab_ne (show (s.hp.con L6).live by rw [c6]; trivial)
    have hne9 := lab_ne (show (s.hp.con L9).live by rw [c9]; trivial)
    simp only [go_sem, h0, h1, h2, h6, c6, h9, c9, Nat.reduceAdd, Nat.reduceBEq, Nat.reduceEqDiff, Nat.reduceLeDiff, Nat.reduceLT, Nat.reduceSub, Int.reduceToNat]
    refine CallX.pure hf16 ?_
    simp only [go_sem, QV_eq, hne6, hne9, h0, h1, h2, h6, c6, h9, c9, Nat.reduceAdd, Nat.reduceBEq, Nat.reduceEqDiff, Nat.reduceLeDiff, Nat.reduceLT, Nat.reduceSub, Int.reduceToNat]
    refine range_intro (fun lpc hlp => ?_)
    have hv := hH.alloc 5 lpSlot lpc
    generalize hL : (⟨5, lpSlot, s.hp.cnt 5 lpSlot⟩ : Lab) = L
    have fL : L.f = 5 := by rw [← hL]
    have newL : h.con L = .none := by rw [← hL]; exact hH.new 5 lpSlot
    have dL6 : (L6 = L) = False := by rw [← hL]; exact hne6 5 lpSlot
    have dL9 : (L9 = L) = False := by rw [← hL]; exact hne9 5 lpSlot
    refine CallX.of (f41_spec L _ _ ns false obj hlen qs ((qsOf_eq homes ns obj).trans hqs)
      (fun i g => g.con L = lpc ∧ g.con L6 = .blk [.bool false] ∧ (∃ v, g.con L9 = .blk [v] ∧ AllS h g v (qs.take i)) ∧ Keeps h g) (fun _ _ => False) _ _ ?_ ?_ ?_ ?_ (fun _ _ hF => hF.elim))
    · rintro i g1 g2 La hLa fLa ⟨q1, q2, ⟨v, q3, q4⟩, q6⟩ hg
      have nl : ∀ M : Lab, M.f = 5 → M ≠ La := fun M hM e => by rw [e, fLa] at hM; simp at hM
      refine ⟨by rw [hg L (nl L fL)]; exact q1, by rw [hg L6 (nl L6 f6)]; exact q2, ⟨v, by rw [hg L9 (nl L9 f9)]; exact q3, ?_⟩, fun M => ?_⟩
      · rcases q4 with q4 | ⟨Lo, z1, z2, z3, z4⟩
        · exact .inl q4
        · exact .inr ⟨Lo, z1, z2, by rw [hg Lo (nl Lo z1)]; exact z3, z4⟩
      · by_cases hM : M = La
        · left; subst hM
          rcases hv M with z | z
          · exact z
          · rw [← z]; exact hLa
        · rw [hg M hM]; exact q6 M
    · refine ⟨by simp only [go_sem, hL, Nat.reduceAdd, Nat.reduceBEq, Nat.reduceEqDiff, Nat.reduceLeDiff, Nat.reduceLT, Nat.reduceSub, Int.reduceToNat], by simp only [go_sem, hL, dL6, c6, Nat.reduceAdd, Nat.reduceBEq, Nat.reduceEqDiff, Nat.reduceLeDiff, Nat.reduceLT, Nat.reduceSub, Int.reduceToNat], ⟨_, by simp only [go_sem, hL, dL9, c9, Nat.reduceAdd, Nat.reduceBEq, Nat.reduceEqDiff, Nat.reduceLeDiff, Nat.reduceLT, Nat.reduceSub, Int.reduceToNat], .inl ⟨rfl, rfl⟩⟩, hv⟩
    · rintro i hi g1 ⟨q1, q2, ⟨v, q3, q4⟩, q6⟩
      have hLk := lt_of_con q1 (by rw [hlp]; simp)
      refine YieldX.round mixed 5 (fun _ => []) q1 hlp ntm5 (by decide) (by kernel_rfl) (by kernel_rfl) rfl ?_
      have nF : ((⟨5, 63, g1.cnt 5 63⟩ : Lab) = L) = False := by
        rw [← hL]; simp only [Lab.mk.injEq, ne_lpSlot (show 63 < 1000000 by decide), false_and, and_false]
      have hg9 := lab_ne (show (g1.con L9).live by rw [q3]; trivial)
      have hg6 := lab_ne (show (g1.con L6).live by rw [q2]; trivial)
      have qk : Keeps h (g1.set L .none) := q6.set newL _
      have hi30 : i < 2 ^ 61 := by omega
      have take1 : qs.take (i + 1) = qs.take i ++ [qs[i]] := List.take_succ_eq_append_getElem hi
      have fin : ∀ (H : Hp) (Lo' : Lab), Lo'.f = 5 → (∀ M, M.f = 41 → H.con M = g1.con M) → L.k < H.cnt L.f L.s → H.con L6 = .blk [.bool false] → H.con L9 = .blk [.os Lo'] → H.con Lo' = .arr 2 ((qs.take i ++ [qs[i]]).map pairA) → h.con Lo' = .none → (Lo' = L) = False → Keeps h H →
          (∀ M : Lab, M.f = 41 → (H.back L lpc).con M = g1.con M) ∧ (((H.back L lpc).con L = lpc ∧ (H.back L lpc).con L6 = .blk [.bool false] ∧ (∃ v, (H.back L lpc).con L9 = .blk [v] ∧ AllS h (H.back L lpc) v (qs.take (i + 1))) ∧ Keeps h (H.back L lpc)) ∨ False) := by
        intro H Lo' fo hfr hk h1 h2 h3 h4 h5 h6
        have hbk : ∀ M, (H.back L lpc).con M = if M = L then lpc else H.con M := back_con hk
        refine ⟨fun M hM => ?_, .inl ⟨?_, ?_, ⟨.os Lo', ?_, .inr ⟨Lo', fo, rfl, ?_, h4⟩⟩, h6.back newL _⟩⟩
        · have m1 : (M = L) = False := eq_false (fun e => by rw [e, fL] at hM; simp at hM)
          rw [hbk]; simp only [m1, if_false]; exact hfr M hM
        · rw [hbk]; simp
        · rw [hbk]; simp only [dL6, if_false]; exact h1
        · rw [hbk]; simp only [dL9, if_false]; exact h2
        · rw [hbk]; simp only [h5, if_false]; rw [take1]; exact h3
      rcases q4 with ⟨e1, rfl⟩ | ⟨Lo, z1, rfl, z3, z4⟩
      · have i0 : i = 0 := by
          have := congrArg List.length e1
          simp only [List.length_take, List.length_nil] at this; omega
        simp only [go_sem, q2, q3, h6, h9, n69, n96, dL6, dL9, Nat.reduceAdd, Nat.reduceBEq, Nat.reduceEqDiff, Nat.reduceLeDiff, Nat.reduceLT, Nat.reduceSub, Int.reduceToNat]
        rw [awp_loop]
        refine ⟨fun s => s.slots 46 = .l true 0 [] ∧ s.slots 47 = .int .i64 0 ∧ s.slots 48 = .int .i64 0 ∧ s.slots 9 = .pt L9 0 0 0 ∧ s.slots 10 = .int .i64 qs[i].1 ∧ s.slots 11 = .int .i64 qs[i].2 ∧ s.hp = g1.set L .none, fun _ => 0, ?_, ?_⟩
        · simp only [go_sem, q2, q3, h6, h9, n69, n96, dL6, dL9, Nat.reduceAdd, Nat.reduceBEq, Nat.reduceEqDiff, Nat.reduceLeDiff, Nat.reduceLT, Nat.reduceSub, Int.reduceToNat]
          rfl
        · rintro s2 ⟨y46, y47, y48, y9, y10, y11, yH⟩
          have d0 : decide ((0 : Int) < 0) = false := by decide
          simp only [go_sem, d0, hg9, hg6, y46, y47, y48, y9, y10, y11, yH, q2, q3, h6, h9, n69, n96, dL6, dL9, Nat.reduceAdd, Nat.reduceBEq, Nat.reduceEqDiff, Nat.reduceLeDiff, Nat.reduceLT, Nat.reduceSub, Int.reduceToNat]
          refine ⟨by decide, by decide, fin _ ⟨5, 63, g1.cnt 5 63⟩ rfl (fun M hM => ?_) (Nat.lt_of_lt_of_le hLk (alloc_cnt_le (h := g1.set L .none) (c := .none) _ _)) ?_ ?_ ?_ (qk.new 5 63) nF ((qk.alloc _ _ _).set n9 _)⟩
          · have m1 : (M = L9) = False := eq_false (fun e => by rw [e, f9] at hM; simp at hM)
            have m2 : (M = ⟨5, 63, g1.cnt 5 63⟩) = False := eq_false (fun e => by rw [e] at hM; simp at hM)
            have m3 : (M = L) = False := eq_false (fun e => by rw [e, fL] at hM; simp at hM)
            simp only [go_sem, m1, m2, m3, Nat.reduceAdd, Nat.reduceBEq, Nat.reduceEqDiff, Nat.reduceLeDiff, Nat.reduceLT, Nat.reduceSub, Int.reduceToNat]
          · simp only [go_sem, hg6, n69, dL6, q2, Nat.reduceAdd, Nat.reduceBEq, Nat.reduceEqDiff, Nat.reduceLeDiff, Nat.reduceLT, Nat.reduceSub, Int.reduceToNat]
          · simp only [go_sem, hg9, dL9, q3, Nat.reduceAdd, Nat.reduceBEq, Nat.reduceEqDiff, Nat.reduceLeDiff, Nat.reduceLT, Nat.reduceSub, Int.reduceToNat]
          · simp only [go_sem, i0, Nat.reduceAdd, Nat.reduceBEq, Nat.reduceEqDiff, Nat.reduceLeDiff, Nat.reduceLT, Nat.reduceSub, Int.reduceToNat]
            have m4 : ((⟨5, 63, g1.cnt 5 63⟩ : Lab) = L9) = False := ne_lab (show (g1.con L9).live by rw [q3]; trivial) 5 63
            simp [m4, pairA, e1, i0]
      · have dLo : (Lo = L) = False := con_ne z3 q1 (by rw [hlp]; simp)
        have do9 : (Lo = L9) = False := con_ne z3 q3 (by simp)
        have d9o : (L9 = Lo) = False := ne_con z3 q3 (by simp)
        have d6o : (L6 = Lo) = False := ne_con z3 q2 (by simp)
        have hl : (qs.take i).length = i := by rw [List.length_take]; omega
        simp only [go_sem, q2, q3, h6, h9, n69, n96, dL6, dL9, dLo, z3, hl, Nat.reduceAdd, Nat.reduceBEq, Nat.reduceEqDiff, Nat.reduceLeDiff, Nat.reduceLT, Nat.reduceSub, Int.reduceToNat]
        rw [awp_loop]
        refine ⟨fun s => ∃ j : Nat, j ≤ i ∧ s.slots 46 = .os Lo ∧ s.slots 47 = .int .i64 i ∧ s.slots 48 = .int .i64 j ∧ s.slots 9 = .pt L9 0 0 0 ∧ s.slots 10 = .int .i64 qs[i].1 ∧ s.slots 11 = .int .i64 qs[i].2 ∧
            s.hp.con L9 = .blk [.os Lo] ∧ s.hp.con L6 = .blk [.bool false] ∧ s.hp.con Lo = .arr 2 ((qs.take i).map pairA) ∧ Keeps h s.hp ∧ (∀ M, M.f = 41 → s.hp.con M = g1.con M) ∧ L.k < s.hp.cnt L.f L.s,
          fun s => match s.slots 48 with | .int _ j => (i - j).toNat | _ => 0, ?_, ?_⟩
        · refine ⟨0, ?_⟩
          simp only [go_sem, q2, q3, h6, h9, n69, n96, dL6, dL9, dLo, z3, hl, Nat.reduceAdd, Nat.reduceBEq, Nat.reduceEqDiff, Nat.reduceLeDiff, Nat.reduceLT, Nat.reduceSub, Int.reduceToNat]
          exact ⟨by omega, rfl, qk, fun M hM => by
            have m3 : (M = L) = False := eq_false (fun e => by rw [e, fL] at hM; simp at hM)
            simp only [m3, if_false], hLk⟩
        · rintro s2 ⟨j, hj, y46, y47, y48, y9, y10, y11, yL9, yL6, yLo, yK, yF, yk⟩
          have hn9 := lab_ne (show (s2.hp.con L9).live by rw [yL9]; trivial)
          have hn6 := lab_ne (show (s2.hp.con L6).live by rw [yL6]; trivial)
          have hno := lab_ne (show (s2.hp.con Lo).live by rw [yLo]; trivial)
          have nF2 : ((⟨5, 63, s2.hp.cnt 5 63⟩ : Lab) = L) = False := by
            rw [← hL]; simp only [Lab.mk.injEq, ne_lpSlot (show 63 < 1000000 by decide), false_and, and_false]
          by_cases hlt : j < i
          · have d0 : decide ((j : Int) < i) = true := by simpa using hlt
            have hw : IntKind.i64.wrap ((j : Int) + 1) = ((j + 1 : Nat) : Int) := wrapS (by omega)
            have hx : (((qs.take i)[j]'(by omega)).1 == qs[i].1 && ((qs.take i)[j]'(by omega)).2 == qs[i].2) = false := by
              have := hne_ j i (by omega) hi hlt
              rw [List.getElem_take]
              cases hc : (qs[j].1 == qs[i].1 && qs[j].2 == qs[i].2)
              · rfl
              · simp only [Bool.and_eq_true, beq_iff_eq] at hc
                exact absurd (Prod.ext hc.1 hc.2) this
            have hdec : (((i : Int) - ((j + 1 : Nat) : Int)).toNat < ((i : Int) - (j : Int)).toNat) := by omega
            simp only [go_sem, d0, hw, hx, hn9, hn6, hno, y46, y47, y48, y9, y10, y11, yL9, yL6, yLo, hl, pairA_cells, Nat.reduceAdd, Nat.reduceBEq, Nat.reduceEqDiff, Nat.reduceLeDiff, Nat.reduceLT, Nat.reduceSub, Int.reduceToNat]
            refine ⟨by omega, hlt, by first | exact hlt | (simp; omega) | omega, ⟨j + 1, by omega, rfl, yK.var 5 13 _ _, fun M hM => ?_, ?_⟩, hdec⟩
            · have m2 : (M = ⟨5, 13, s2.hp.cnt 5 13⟩) = False := eq_false (fun e => by rw [e] at hM; simp at hM)
              simp only [m2, if_false]; exact yF M hM
            · split
              · rename_i hc
                rw [hc.1, hc.2] at yk; omega
              · exact yk
          · have d0 : decide ((j : Int) < i) = false := by simpa using hlt
            have : j = i := by omega
            subst this
            simp only [go_sem, d0, hn9, hn6, hno, y46, y47, y48, y9, y10, y11, yL9, yL6, yLo, hl, do9, d9o, d6o, n69, n96, pairA_cells, Nat.reduceAdd, Nat.reduceBEq, Nat.reduceEqDiff, Nat.reduceLeDiff, Nat.reduceLT, Nat.reduceSub, Int.reduceToNat]
            have m4 : ((⟨5, 63, s2.hp.cnt 5 63⟩ : Lab) = L9) = False := ne_lab (show (s2.hp.con L9).live by rw [yL9]; trivial) 5 63
            refine ⟨by decide, by omega, by omega, fin _ ⟨5, 63, s2.hp.cnt 5 63⟩ rfl (fun M hM => ?_) (Nat.lt_of_lt_of_le yk (alloc_cnt_le (h := s2.hp.set Lo .none) (c := .none) _ _)) ?_ ?_ ?_ (yK.new 5 63) nF2 (((yK.set z4 _).alloc _ _ _).set n9 _)⟩
            · have m1 : (M = L9) = False := eq_false (fun e => by rw [e, f9] at hM; simp at hM)
              have m2 : (M = ⟨5, 63, s2.hp.cnt 5 63⟩) = False := eq_false (fun e => by rw [e] at hM; simp at hM)
              have m3 : (M = Lo) = False := eq_false (fun e => by rw [e, z1] at hM; simp at hM)
              simp only [go_sem, m1, m2, m3, Nat.reduceAdd, Nat.reduceBEq, Nat.reduceEqDiff, Nat.reduceLeDiff, Nat.reduceLT, Nat.reduceSub, Int.reduceToNat]; exact yF M hM
            · simp only [go_sem, hn6, n69, d6o, yL6, Nat.reduceAdd, Nat.reduceBEq, Nat.reduceEqDiff, Nat.reduceLeDiff, Nat.reduceLT, Nat.reduceSub, Int.reduceToNat]
            · simp only [go_sem, hn9, d9o, yL9, Nat.reduceAdd, Nat.reduceBEq, Nat.reduceEqDiff, Nat.reduceLeDiff, Nat.reduceLT, Nat.reduceSub, Int.reduceToNat]
            · simp only [go_sem, m4, Nat.reduceAdd, Nat.reduceBEq, Nat.reduceEqDiff, Nat.reduceLeDiff, Nat.reduceLT, Nat.reduceSub, Int.reduceToNat]
              rw [List.map_append]; rfl
    · rintro g ⟨q1, q2, ⟨v, q3, q4⟩, q6⟩
      have q1' := q1.trans hlp
      have hq0 : qs.length ≠ 0 := fun e => by
        have := List.length_eq_zero_iff.1 e
        rw [this] at hfirst; simp at hfirst
      rw [List.take_length] at q4
      rcases q4 with ⟨e1, _⟩ | ⟨Lo, z1, z2, z3, z4⟩
      · rw [e1] at hq0; simp at hq0
      · have dLo : (Lo = L) = False := con_ne z3 q1' (by simp)
        simp only [go_sem, hL, dL6, dL9, h0, h1, h2, h6, h9, q1', q2, q3, Nat.reduceAdd, Nat.reduceBEq, Nat.reduceEqDiff, Nat.reduceLeDiff, Nat.reduceLT, Nat.reduceSub, Int.reduceToNat]
        refine ⟨⟨Lo, by rw [z2], by simp only [dLo, z3, if_false]⟩, q6.set newL _⟩
  clear h0 h1 h2 h6 c6 h9 c9 hH
  rintro s ⟨h0, h1, h2, h6, c6, h9, ⟨Lo, c9, co⟩, hH⟩
  have do9 : (Lo = L9) = False := con_ne co c9 (by simp)
  have do6 : (Lo = L6) = False := con_ne co c6 (by simp)
  refine awp_cut (fun s => s.slots 0 = .l eh 1 (homes.map I) ∧ s.slots 1 = .l ex 6 (ns.map encN) ∧ s.slots 2 = .int .i64 obj ∧ s.slots 6 = .pt L6 0 0 0 ∧ s.hp.con L6 = .blk [.bool false] ∧
    s.slots 9 = .pt L9 0 0 0 ∧ s.slots 14 = .int .i64 0 ∧ s.hp.con L9 = .blk [.os Lo] ∧ s.hp.con Lo = .arr 2 (qs.map pairA) ∧ Keeps h s.hp) ?_ ?_
  · simp only [go_sem, h0, h1, h2, h6, c6, h9, c9, co, Nat.reduceAdd, Nat.reduceBEq, Nat.reduceEqDiff, Nat.reduceLeDiff, Nat.reduceLT, Nat.reduceSub, Int.reduceToNat]
    exact hH
  clear h0 h1 h2 h6 c6 h9 c9 co hH
  rintro s ⟨h0, h1, h2, h6, c6, h9, h14, c9, co, hH⟩
  refine awp_cut (fun s => s.slots 0 = .l eh 1 (homes.map I) ∧ s.slots 1 = .l ex 6 (ns.map encN) ∧ s.slots 2 = .int .i64 obj ∧ s.slots 6 = .pt L6 0 0 0 ∧ s.hp.con L6 = .blk [.bool false] ∧
    s.slots 9 = .pt L9 0 0 0 ∧ s.hp.con L9 = .blk [.os Lo] ∧ s.hp.con Lo = .arr 2 (qs.map pairA) ∧ Keeps h s.hp) ?_ ?_
  · simp only [go_sem, h0, h1, h2, h6, c6, h9, h14, c9, co, Nat.reduceAdd, Nat.reduceBEq, Nat.reduceEqDiff, Nat.reduceLeDiff, Nat.reduceLT, Nat.reduceSub, Int.reduceToNat]
    rw [awp_loop]
    refine ⟨fun s => ∃ i : Nat, i ≤ ns.length ∧ s.slots 0 = .l eh 1 (homes.map I) ∧ s.slots 1 = .l ex 6 (ns.map encN) ∧ s.slots 2 = .int .i64 obj ∧ s.slots 6 = .pt L6 0 0 0 ∧ s.hp.con L6 = .blk [.bool false] ∧
        s.slots 9 = .pt L9 0 0 0 ∧ s.hp.con L9 = .blk [.os Lo] ∧ s.hp.con Lo = .arr 2 (qs.map pairA) ∧ s.slots 14 = .int .i64 (gotN obj (ns.take i)) ∧ s.slots 64 = .l ex 6 (ns.map encN) ∧ s.slots 65 = .int .i64 ns.length ∧ s.slots 66 = .int .i64 i ∧ Keeps h s.hp,
      fun s => match s.slots 66 with | .int _ i => (ns.length - i).toNat | _ => 0, ?_, ?_⟩
    · refine ⟨0, ?_⟩
      simp only [go_sem, h0, h1, h2, h6, c6, h9, h14, c9, co, Nat.reduceAdd, Nat.reduceBEq, Nat.reduceEqDiff, Nat.reduceLeDiff, Nat.reduceLT, Nat.reduceSub, Int.reduceToNat]
      exact ⟨by omega, rfl, rfl, hH⟩
    · clear h0 h1 h2 h6 c6 h9 h14 c9 co hH
      rintro s ⟨i, hi, h0, h1, h2, h6, c6, h9, c9, co, h14, h64, h65, h66, hH⟩
      have hn6 := lab_ne (show (s.hp.con L6).live by rw [c6]; trivial)
      have hn9 := lab_ne (show (s.hp.con L9).live by rw [c9]; trivial)
      have hno := lab_ne (show (s.hp.con Lo).live by rw [co]; trivial)
      by_cases hlt : i < ns.length
      · have d0 : decide ((i : Int) < ns.length) = true := by simpa using hlt
        have hw : IntKind.i64.wrap ((i : Int) + 1) = ((i + 1 : Nat) : Int) := wrapS (by omega)
        have hgl := gotN_le (obj := obj) (ns := ns) i
        have hw2 : IntKind.i64.wrap ((gotN obj (ns.take i) : Int) + 1) = ((gotN obj (ns.take i) + 1 : Nat) : Int) := wrapS (by omega)
        have hdec : (((ns.length : Int) - ((i + 1 : Nat) : Int)).toNat < ((ns.length : Int) - (i : Int)).toNat) := by omega
        have hv := hH.var 5 16 (.blk [.int .i64 0, .int .i64 0, .int .i64 0, .int .i64 0, .int .i64 0, .int .i64 0]) (.blk [.int .i64 ns[i].kind, .int .i64 ns[i].obj, .int .i64 ns[i].node, .int .i64 ns[i].num, .int .i64 ns[i].to, .int .i64 ns[i].next])
        have hgs := gotN_step (obj := obj) i hlt
        rcases two (ns[i].kind != 4) (ns[i].obj != obj) with b4 | ⟨b4, b5⟩ | ⟨b4, b5⟩
        · cases b5 : (ns[i].obj != obj)
          · have hg : isGot obj ns[i] = true := by
              simp only [bne_eq_false_iff_eq] at b4 b5
              simp [isGot, b4, b5]
            rw [if_pos hg] at hgs
            have hnx := hnext i hlt hg
            obtain ⟨hql, hqv⟩ := List.getElem?_eq_some_iff.1 hnx
            have d1 : decide (((gotN obj (ns.take i) + 1 : Nat) : Int) ≥ qs.length) = false := by simp; omega
            have d2 : (qs[gotN obj (ns.take i) + 1].1 == ns[i].node && qs[gotN obj (ns.take i) + 1].2 == ns[i].num) = true := by rw [hqv]; simp
            simp only [go_sem, d0, d1, d2, b4, b5, hw, hw2, hn6, hn9, hno, h0, h1, h2, h6, c6, h9, c9, co, h14, h64, h65, h66, encN_cells, pairA_cells, Nat.reduceAdd, Nat.reduceBEq, Nat.reduceEqDiff, Nat.reduceLeDiff, Nat.reduceLT, Nat.reduceSub, Int.reduceToNat]
            exact ⟨by omega, hlt, by omega, hql, hql, ⟨i + 1, hlt, by rw [hgs], rfl, hv⟩, hdec⟩
          · have hg : ¬ isGot obj ns[i] = true := by
              simp only [bne_iff_ne, ne_eq] at b5
              simp [isGot, b5]
            rw [if_neg hg] at hgs
            simp only [go_sem, d0, b4, b5, hw, hw2, hn6, hn9, hno, h0, h1, h2, h6, c6, h9, c9, co, h14, h64, h65, h66, encN_cells, pairA_cells, Nat.reduceAdd, Nat.reduceBEq, Nat.reduceEqDiff, Nat.reduceLeDiff, Nat.reduceLT, Nat.reduceSub, Int.reduceToNat]
            exact ⟨by omega, hlt, ⟨i + 1, hlt, by rw [hgs], rfl, hv⟩, hdec⟩
        all_goals
          have hg : ¬ isGot obj ns[i] = true := by
            simp only [bne_iff_ne, ne_eq] at b4
            simp [isGot, b4]
          rw [if_neg hg] at hgs
          simp only [go_sem, d0, b4, hw, hw2, hn6, hn9, hno, h0, h1, h2, h6, c6, h9, c9, co, h14, h64, h65, h66, encN_cells, pairA_cells, Nat.reduceAdd, Nat.reduceBEq, Nat.reduceEqDiff, Nat.reduceLeDiff, Nat.reduceLT, Nat.reduceSub, Int.reduceToNat]
          exact ⟨by omega, hlt, ⟨i + 1, hlt, by rw [hgs], rfl, hv⟩, hdec⟩
      · have d0 : decide ((i : Int) < ns.length) = false := by simpa using hlt
        simp only [go_sem, d0, h0, h1, h2, h6, c6, h9, c9, co, h14, h64, h65, h66, Nat.reduceAdd, Nat.reduceBEq, Nat.reduceEqDiff, Nat.reduceLeDiff, Nat.reduceLT, Nat.reduceSub, Int.reduceToNat]
        exact hH
  clear h0 h1 h2 h6 c6 h9 h14 c9 co hH
  rintro s ⟨h0, h1, h2, h6, c6, h9, c9, co, hH⟩
  have hk : obj.toNat < homes.length := by omega
  obtain ⟨hq0, hqv⟩ := List.getElem?_eq_some_iff.1 hfirst
  have d0 : decide ((qs.length : Int) > 0) = true := by simp; omega
  have d1 : (qs[0].1 == homes[obj.toNat] && qs[0].2 == 0) = true := by
    rw [hqv, List.getD_eq_getElem?_getD, List.getElem?_eq_getElem hk]; simp
  simp only [go_sem, d0, d1, h0, h1, h2, h6, c6, h9, c9, co, I_cells, pairA_cells, Nat.reduceAdd, Nat.reduceBEq, Nat.reduceEqDiff, Nat.reduceLeDiff, Nat.reduceLT, Nat.reduceSub, Int.reduceToNat]
  exact ⟨by omega, hq0, hq0, ho.1, hk, hH.set n6 _⟩
end Go.Proofs.Ytmajndgdfmnchaa
