/- GhostQueues. -/
import Derived.Test.YtmajndgdfmnchaaZO
namespace Go.Proofs.Ytmajndgdfmnchaa
open Go Go.T Go.Gh Go.Proofs
set_option linter.unusedSimpArgs false
@[go_sem] theorem res4 : Try.f4.results = #[.cell 6 4] := by kernel_rfl
def capsQ (homes : List Int) (ns : List Note) (obj : Int) : List AV := [.ip [.int .i64 (if 0 ≤ obj ∧ obj < homes.length then homes.getD obj.toNat 0 else 0)], .ip [.bool (decide (0 ≤ obj ∧ obj < homes.length))], .ip [.l false 6 (ns.map encN)], .ip [.int .i64 obj]]
theorem qsOf_eq (homes : List Int) (ns : List Note) (obj : Int) : qsOf (decide (0 ≤ obj ∧ obj < homes.length)) (if 0 ≤ obj ∧ obj < homes.length then homes.getD obj.toNat 0 else 0) obj ns = queueR homes ns obj := by
  unfold qsOf queueR
  by_cases h : 0 ≤ obj ∧ obj < homes.length
  · simp [h]
  · simp [h]
def QV (homes : List Int) (ns : List Note) (obj : Int) : AV := .fn (.func 41) (capsQ homes ns obj)
theorem QV_eq (homes : List Int) (ns : List Note) (obj : Int) : QV homes ns obj = .fn (.func 41) (capsQ homes ns obj) := by simp [QV]
set_option maxRecDepth 10000 in
set_option maxHeartbeats 8000000 in
theorem f4_spec (homes : List Int) (eh : Bool) (ns : List Note) (ex : Bool) (w0 w1 : Int) :
    PureF Try.prog 4 [.l eh 1 (homes.map I), .l ex 6 (ns.map encN), .agg [.int .i64 w0, .int .i64 w1]] (.bool true) := by
  refine PureF.of_awp mixed (fun _ => []) (fn := Try.f4) (by kernel_rfl) rfl (by kernel_rfl) (by show 3 ≤ _; decide) (by simp [AV.lf]) (fun h => ?_)
  have lp10 : (lpSlot = 10) = False := lpSlot_ne (by decide)
  have lp10' : (10 = lpSlot) = False := ne_lpSlot (by decide)
  have lp13' : (13 = lpSlot) = False := ne_lpSlot (by decide)
  have lp13 : (lpSlot = 13) = False := lpSlot_ne (by decide)
  have two_d : ∀ M M' : Lab, M ≠ M' → (M = M') = False := fun _ _ h => eq_false h
  refine awp_cut (fun s => s.slots 0 = .l eh 1 (homes.map I) ∧ s.slots 1 = .l ex 6 (ns.map encN) ∧ (∃ L5 L6 : Lab, L5.f = 4 ∧ L6.f = 4 ∧ h.con L5 = .none ∧ h.con L6 = .none ∧ s.slots 5 = .pt L5 0 0 0 ∧ s.slots 6 = .pt L6 0 0 0 ∧ L5 ≠ L6 ∧ s.hp.con L5 = .blk [.int .i64 w0, .int .i64 w1] ∧ s.hp.con L6 = .blk [.bool false]) ∧ Keeps h s.hp) ?_ ?_
  · simp only [go_sem, Nat.reduceAdd, Nat.reduceBEq, Nat.reduceEqDiff, Nat.reduceLeDiff, Nat.reduceLT, Nat.reduceSub, Int.reduceToNat]
    exact ⟨⟨_, _, rfl, rfl, h.ok _ (by simp), by
      have := ((Keeps.refl h).alloc 4 5 .none).new 4 6
      simpa [Hp.alloc] using this, rfl, rfl, by simp, by simp, by simp⟩, ((Keeps.refl h).alloc _ _ _).alloc _ _ _⟩
  rintro s ⟨h0, h1, ⟨L5, L6, f5, f6, n5, n6, h5, h6, d56, c5, c6⟩, hH⟩
  cases b : decide ((ns.length : Int) > 512)
  · have hlen : ns.length < 2 ^ 30 := by simp at b; omega
    generalize hqs : queueR homes ns w0 = qs
    have hqlen : qs.length ≤ ns.length + 1 := by
      rw [← hqs]; unfold queueR
      split
      · exact queueL_length _ _ _ _
      · simp
    have hf15 := f15_spec homes eh ns ex w0 hlen
    rw [hqs] at hf15
    have hf16 := f16_spec homes eh ns ex w0 hlen
    rw [show AV.fn (.func 41) [.ip [.int .i64 (if 0 ≤ w0 ∧ w0 < homes.length then homes.getD w0.toNat 0 else 0)], .ip [.bool (decide (0 ≤ w0 ∧ w0 < homes.length))], .ip [.l false 6 (ns.map encN)], .ip [.int .i64 w0]] = QV homes ns w0 from rfl] at hf16
    have n65 : (L6 = L5) = False := eq_false (fun e => d56 e.symm)
    have n56 : (L5 = L6) = False := eq_false d56
    refine awp_cut (fun s => s.slots 0 = .l eh 1 (homes.map I) ∧ s.slots 1 = .l ex 6 (ns.map encN) ∧ s.slots 5 = .pt L5 0 0 0 ∧ s.slots 6 = .pt L6 0 0 0 ∧ s.hp.con L5 = .blk [.int .i64 w0, .int .i64 w1] ∧ s.hp.con L6 = .blk [.bool false] ∧ Keeps h s.hp) ?_ ?_
    · simp only [go_sem, h0, h1, h5, h6, c5, c6, Nat.reduceAdd, Nat.reduceBEq, Nat.reduceEqDiff, Nat.reduceLeDiff, Nat.reduceLT, Nat.reduceSub, Int.reduceToNat]
      refine CallX.pure f12_spec ?_
      simp only [go_sem, h0, h1, h5, h6, c5, c6, Nat.reduceAdd, Nat.reduceBEq, Nat.reduceEqDiff, Nat.reduceLeDiff, Nat.reduceLT, Nat.reduceSub, Int.reduceToNat]
      exact hH
    clear h0 h1 h5 h6 c5 c6 hH
    rintro s ⟨h0, h1, h5, h6, c5, c6, hH⟩
    refine awp_cut (fun s => s.slots 0 = .l eh 1 (homes.map I) ∧ s.slots 1 = .l ex 6 (ns.map encN) ∧ s.slots 5 = .pt L5 0 0 0 ∧ s.slots 6 = .pt L6 0 0 0 ∧ s.hp.con L5 = .blk [.int .i64 w0, .int .i64 w1] ∧ s.hp.con L6 = .blk [.bool false] ∧ Keeps h s.hp) ?_ ?_
    · simp only [go_sem, b, h0, h1, h5, h6, c5, c6, Nat.reduceAdd, Nat.reduceBEq, Nat.reduceEqDiff, Nat.reduceLeDiff, Nat.reduceLT, Nat.reduceSub, Int.reduceToNat]
      exact hH
    clear h0 h1 h5 h6 c5 c6 hH
    rintro s ⟨h0, h1, h5, h6, c5, c6, hH⟩
    refine awp_cut (fun s => s.slots 0 = .l eh 1 (homes.map I) ∧ s.slots 1 = .l ex 6 (ns.map encN) ∧ s.slots 5 = .pt L5 0 0 0 ∧ s.slots 6 = .pt L6 0 0 0 ∧ s.hp.con L5 = .blk [.int .i64 w0, .int .i64 w1] ∧ s.hp.con L6 = .blk [.bool false] ∧
      (∃ L7 : Lab, L7.f = 4 ∧ h.con L7 = .none ∧ s.slots 7 = .pt L7 0 0 0 ∧ s.hp.con L7 = .blk [.l false 2 (qs.map pairA)] ∧ L7 ≠ L5 ∧ L7 ≠ L6) ∧ Keeps h s.hp) ?_ ?_
    · have hne5 := lab_ne (show (s.hp.con L5).live by rw [c5]; trivial)
      have hne6 := lab_ne (show (s.hp.con L6).live by rw [c6]; trivial)
      simp only [go_sem, b, h0, h1, h5, h6, c5, c6, Nat.reduceAdd, Nat.reduceBEq, Nat.reduceEqDiff, Nat.reduceLeDiff, Nat.reduceLT, Nat.reduceSub, Int.reduceToNat]
      refine ⟨by omega, by decide, CallX.pure hf15 ?_⟩
      simp only [go_sem, hne5, hne6, h0, h1, h5, h6, c5, c6, Nat.reduceAdd, Nat.reduceBEq, Nat.reduceEqDiff, Nat.reduceLeDiff, Nat.reduceLT, Nat.reduceSub, Int.reduceToNat]
      exact ⟨⟨_, rfl, hH.new 4 7, rfl, by simp, fun e => by have := hne5 4 7; rw [← this]; exact e.symm, fun e => by have := hne6 4 7; rw [← this]; exact e.symm⟩, hH.var _ _ _ _⟩
    clear h0 h1 h5 h6 c5 c6 hH
    rintro s ⟨h0, h1, h5, h6, c5, c6, ⟨L7, f7, n7, h7, c7, d75, d76⟩, hH⟩
    have n75 : (L7 = L5) = False := eq_false d75
    have n76 : (L7 = L6) = False := eq_false d76
    have n57 : (L5 = L7) = False := eq_false (fun e => d75 e.symm)
    have n67 : (L6 = L7) = False := eq_false (fun e => d76 e.symm)
    refine awp_cut (fun s => s.slots 5 = .pt L5 0 0 0 ∧ s.slots 6 = .pt L6 0 0 0 ∧ s.slots 7 = .pt L7 0 0 0 ∧ s.slots 8 = QV homes ns w0 ∧ s.hp.con L5 = .blk [.int .i64 w0, .int .i64 w1] ∧ s.hp.con L6 = .blk [.bool false] ∧ s.hp.con L7 = .blk [.l false 2 (qs.map pairA)] ∧ Keeps h s.hp) ?_ ?_
    · simp only [go_sem, b, h0, h1, h5, h6, h7, c5, c6, c7, Nat.reduceAdd, Nat.reduceBEq, Nat.reduceEqDiff, Nat.reduceLeDiff, Nat.reduceLT, Nat.reduceSub, Int.reduceToNat]
      refine ⟨by omega, by decide, CallX.pure hf16 ?_⟩
      simp only [go_sem, h0, h1, h5, h6, h7, c5, c6, c7, Nat.reduceAdd, Nat.reduceBEq, Nat.reduceEqDiff, Nat.reduceLeDiff, Nat.reduceLT, Nat.reduceSub, Int.reduceToNat]
      exact hH
    clear h0 h1 h5 h6 c5 c6 h7 c7 hH
    rintro s ⟨h5, h6, h7, h8, c5, c6, c7, hH⟩
    refine awp_cut (fun s => s.slots 5 = .pt L5 0 0 0 ∧ s.slots 6 = .pt L6 0 0 0 ∧ s.slots 7 = .pt L7 0 0 0 ∧ s.slots 8 = QV homes ns w0 ∧ s.hp.con L5 = .blk [.int .i64 w0, .int .i64 w1] ∧ s.hp.con L6 = .blk [.bool false] ∧ s.hp.con L7 = .blk [.l false 2 (qs.map pairA)] ∧ Keeps h s.hp) ?_ ?_
    · simp only [go_sem, QV_eq, h5, h6, h7, h8, c5, c6, c7, Nat.reduceAdd, Nat.reduceBEq, Nat.reduceEqDiff, Nat.reduceLeDiff, Nat.reduceLT, Nat.reduceSub, Int.reduceToNat]
      exact hH
    clear h5 h6 h7 h8 c5 c6 c7 hH
    rintro s ⟨h5, h6, h7, h8, c5, c6, c7, hH⟩
    refine awp_cut (fun s => s.slots 5 = .pt L5 0 0 0 ∧ s.slots 6 = .pt L6 0 0 0 ∧ s.slots 7 = .pt L7 0 0 0 ∧ s.slots 8 = QV homes ns w0 ∧ s.hp.con L5 = .blk [.int .i64 w0, .int .i64 w1] ∧ s.hp.con L6 = .blk [.bool false] ∧ s.hp.con L7 = .blk [.l false 2 (qs.map pairA)] ∧ Keeps h s.hp) ?_ ?_
    · simp only [go_sem, h5, h6, h7, h8, c5, c6, c7, Nat.reduceAdd, Nat.reduceBEq, Nat.reduceEqDiff, Nat.reduceLeDiff, Nat.reduceLT, Nat.reduceSub, Int.reduceToNat]
      rw [awp_loop]
      refine ⟨fun s => ∃ r : Nat, r ≤ 2 ∧ s.slots 9 = .int .i64 r ∧ s.slots 5 = .pt L5 0 0 0 ∧ s.slots 6 = .pt L6 0 0 0 ∧ s.slots 7 = .pt L7 0 0 0 ∧ s.slots 8 = QV homes ns w0 ∧ s.hp.con L5 = .blk [.int .i64 w0, .int .i64 w1] ∧ s.hp.con L6 = .blk [.bool false] ∧ s.hp.con L7 = .blk [.l false 2 (qs.map pairA)] ∧ Keeps h s.hp,
        fun s => match s.slots 9 with | .int _ i => (2 - i).toNat | _ => 0, ?_, ?_⟩
      · refine ⟨0, ?_⟩
        simp only [go_sem, h5, h6, h7, h8, c5, c6, c7, Nat.reduceAdd, Nat.reduceBEq, Nat.reduceEqDiff, Nat.reduceLeDiff, Nat.reduceLT, Nat.reduceSub, Int.reduceToNat]
        exact ⟨rfl, hH⟩
      · clear h5 h6 h7 h8 c5 c6 c7 hH
        rintro s ⟨r, hr, h9, h5, h6, h7, h8, c5, c6, c7, hH⟩
        cases b2 : decide ((r : Int) < 2)
        · simp only [go_sem, b2, h5, h6, h7, h8, h9, c5, c6, c7, Nat.reduceAdd, Nat.reduceBEq, Nat.reduceEqDiff, Nat.reduceLeDiff, Nat.reduceLT, Nat.reduceSub, Int.reduceToNat]
          exact hH
        · have hne5 := lab_ne (show (s.hp.con L5).live by rw [c5]; trivial)
          have hne6 := lab_ne (show (s.hp.con L6).live by rw [c6]; trivial)
          have hne7 := lab_ne (show (s.hp.con L7).live by rw [c7]; trivial)
          simp only [go_sem, lp10, QV_eq, b2, hne5, hne6, hne7, h5, h6, h7, h8, h9, c5, c6, c7, Nat.reduceAdd, Nat.reduceBEq, Nat.reduceEqDiff, Nat.reduceLeDiff, Nat.reduceLT, Nat.reduceSub, Int.reduceToNat]
          refine range_intro (fun lpc hlp => ?_)
          have hv := (hH.var 4 10 (.blk [.int .i64 0]) (.blk [.int .i64 0])).alloc 4 lpSlot lpc
          generalize hL : (⟨4, lpSlot, s.hp.cnt 4 lpSlot⟩ : Lab) = L
          generalize hLn : (⟨4, 10, s.hp.cnt 4 10⟩ : Lab) = Ln
          rw [hLn] at hv
          have fL : L.f = 4 := by rw [← hL]
          have fLn : Ln.f = 4 := by rw [← hLn]
          have newL : h.con L = .none := by rw [← hL]; exact hH.new 4 lpSlot
          have newLn : h.con Ln = .none := by rw [← hLn]; exact hH.new 4 10
          have dL5 : (L5 = L) = False := by rw [← hL]; exact hne5 4 lpSlot
          have dL6 : (L6 = L) = False := by rw [← hL]; exact hne6 4 lpSlot
          have dL7 : (L7 = L) = False := by rw [← hL]; exact hne7 4 lpSlot
          have dn5 : (L5 = Ln) = False := by rw [← hLn]; exact hne5 4 10
          have dn6 : (L6 = Ln) = False := by rw [← hLn]; exact hne6 4 10
          have dn7 : (L7 = Ln) = False := by rw [← hLn]; exact hne7 4 10
          have dLn : (Ln = L) = False := by rw [← hLn, ← hL]; simp only [Lab.mk.injEq, lp10', false_and, and_false, true_and]
          have dnL : (L = Ln) = False := by rw [← hLn, ← hL]; simp only [Lab.mk.injEq, lp10, false_and, and_false, true_and]
          refine CallX.of (f41_spec L _ _ ns false w0 hlen qs ((qsOf_eq homes ns w0).trans hqs)
            (fun i g => g.con L = lpc ∧ g.con Ln = .blk [.int .i64 i] ∧ g.con L5 = .blk [.int .i64 w0, .int .i64 w1] ∧ g.con L6 = .blk [.bool false] ∧ g.con L7 = .blk [.l false 2 (qs.map pairA)] ∧ Keeps h g) (fun _ _ => False) _ _ ?_ ?_ ?_ ?_ (fun _ _ hF => hF.elim))
          · rintro i g1 g2 La hLa fLa ⟨q1, q2, q3, q4, q5, q6⟩ hg
            have nl : ∀ M : Lab, M.f = 4 → M ≠ La := fun M hM e => by rw [e, fLa] at hM; simp at hM
            refine ⟨by rw [hg L (nl L fL)]; exact q1, by rw [hg Ln (nl Ln fLn)]; exact q2, by rw [hg L5 (nl L5 f5)]; exact q3, by rw [hg L6 (nl L6 f6)]; exact q4, by rw [hg L7 (nl L7 f7)]; exact q5, fun M => ?_⟩
            by_cases hM : M = La
            · left; subst hM
              rcases hv M with z | z
              · exact z
              · rw [← z]; exact hLa
            · rw [hg M hM]; exact q6 M
          · refine ⟨by simp only [go_sem, lp10, lp10', hL, hLn, Nat.reduceAdd, Nat.reduceBEq, Nat.reduceEqDiff, Nat.reduceLeDiff, Nat.reduceLT, Nat.reduceSub, Int.reduceToNat], by simp only [go_sem, lp10, lp10', hL, hLn, dLn, dnL, Nat.reduceAdd, Nat.reduceBEq, Nat.reduceEqDiff, Nat.reduceLeDiff, Nat.reduceLT, Nat.reduceSub, Int.reduceToNat]; rfl, by simp only [go_sem, lp10, lp10', hL, hLn, dL5, dn5, c5, Nat.reduceAdd, Nat.reduceBEq, Nat.reduceEqDiff, Nat.reduceLeDiff, Nat.reduceLT, Nat.reduceSub, Int.reduceToNat], by simp only [go_sem, lp10, lp10', hL, hLn, dL6, dn6, c6, Nat.reduceAdd, Nat.reduceBEq, Nat.reduceEqDiff, Nat.reduceLeDiff, Nat.reduceLT, Nat.reduceSub, Int.reduceToNat], by simp only [go_sem, lp10, lp10', hL, hLn, dL7, dn7, c7, Nat.reduceAdd, Nat.reduceBEq, Nat.reduceEqDiff, Nat.reduceLeDiff, Nat.reduceLT, Nat.reduceSub, Int.reduceToNat], hv⟩
          · rintro i hi g1 ⟨q1, q2, q3, q4, q5, q6⟩
            have hLk := lt_of_con q1 (by rw [hlp]; simp)
            have d0 : decide ((i : Int) ≥ qs.length) = false := by simp; omega
            have hw : IntKind.i64.wrap ((i : Int) + 1) = ((i + 1 : Nat) : Int) := wrapS (by omega)
            refine YieldX.round mixed 4 (fun _ => []) q1 hlp ntm4 (by decide) (by kernel_rfl) (by kernel_rfl) rfl ?_
            simp only [go_sem, d0, hw, hL, hLn, dLn, dnL, dL5, dL6, dL7, dn5, dn6, dn7, n65, n56, n75, n76, n57, n67, h5, h6, h7, h8, h9, q2, q3, q4, q5, pairA_cells, beq_self_eq_true, Nat.reduceAdd, Nat.reduceBEq, Nat.reduceEqDiff, Nat.reduceLeDiff, Nat.reduceLT, Nat.reduceSub, Int.reduceToNat]
            have hbk : ∀ M, (((g1.set L .none).set Ln (.blk [.int .i64 ((i + 1 : Nat) : Int)])).back L lpc).con M = if M = L then lpc else ((g1.set L .none).set Ln (.blk [.int .i64 ((i + 1 : Nat) : Int)])).con M := back_con (show L.k < ((g1.set L .none).set Ln (.blk [.int .i64 ((i + 1 : Nat) : Int)])).cnt L.f L.s from hLk)
            refine ⟨by omega, hi, fun M hM => ?_, .inl ⟨?_, ?_, ?_, ?_, ?_, ((q6.set newL _).set newLn _).back newL _⟩⟩
            · have m1 : (M = L) = False := eq_false (fun e => by rw [e, fL] at hM; simp at hM)
              have m2 : (M = Ln) = False := eq_false (fun e => by rw [e, fLn] at hM; simp at hM)
              simp only [go_sem, hbk, m1, m2, Nat.reduceAdd, Nat.reduceBEq, Nat.reduceEqDiff, Nat.reduceLeDiff, Nat.reduceLT, Nat.reduceSub, Int.reduceToNat]
            · simp only [go_sem, hbk, Nat.reduceAdd, Nat.reduceBEq, Nat.reduceEqDiff, Nat.reduceLeDiff, Nat.reduceLT, Nat.reduceSub, Int.reduceToNat]
            · simp only [go_sem, hbk, dLn, dnL, q2, Nat.reduceAdd, Nat.reduceBEq, Nat.reduceEqDiff, Nat.reduceLeDiff, Nat.reduceLT, Nat.reduceSub, Int.reduceToNat]
            · simp only [go_sem, hbk, dL5, dn5, q3, Nat.reduceAdd, Nat.reduceBEq, Nat.reduceEqDiff, Nat.reduceLeDiff, Nat.reduceLT, Nat.reduceSub, Int.reduceToNat]
            · simp only [go_sem, hbk, dL6, dn6, q4, Nat.reduceAdd, Nat.reduceBEq, Nat.reduceEqDiff, Nat.reduceLeDiff, Nat.reduceLT, Nat.reduceSub, Int.reduceToNat]
            · simp only [go_sem, hbk, dL7, dn7, q5, Nat.reduceAdd, Nat.reduceBEq, Nat.reduceEqDiff, Nat.reduceLeDiff, Nat.reduceLT, Nat.reduceSub, Int.reduceToNat]
          · rintro g ⟨q1, q2, q3, q4, q5, q6⟩
            have q1' := q1.trans hlp
            have d0 : ((qs.length : Int) != qs.length) = false := by simp
            have hw : IntKind.i64.wrap ((r : Int) + 1) = ((r + 1 : Nat) : Int) := wrapS (by omega)
            simp only [go_sem, lp10, lp10', d0, hw, hL, hLn, dLn, dnL, dL5, dL6, dL7, dn5, dn6, dn7, h5, h6, h7, h8, h9, q1', q2, q3, q4, q5, Nat.reduceAdd, Nat.reduceBEq, Nat.reduceEqDiff, Nat.reduceLeDiff, Nat.reduceLT, Nat.reduceSub, Int.reduceToNat]
            simp only [decide_eq_true_eq] at b2
            exact ⟨⟨r + 1, by omega, rfl, q6.set newL _⟩, by omega⟩
    clear h5 h6 h7 h8 c5 c6 c7 hH
    rintro s ⟨h5, h6, h7, h8, c5, c6, c7, hH⟩
    have hne5 := lab_ne (show (s.hp.con L5).live by rw [c5]; trivial)
    have hne6 := lab_ne (show (s.hp.con L6).live by rw [c6]; trivial)
    have hne7 := lab_ne (show (s.hp.con L7).live by rw [c7]; trivial)
    simp only [go_sem, lp13, QV_eq, hne5, hne6, hne7, h5, h6, h7, h8, c5, c6, c7, Nat.reduceAdd, Nat.reduceBEq, Nat.reduceEqDiff, Nat.reduceLeDiff, Nat.reduceLT, Nat.reduceSub, Int.reduceToNat]
    refine range_intro (fun lpc hlp => ?_)
    have hv := (hH.var 4 13 (.blk [.int .i64 0]) (.blk [.int .i64 0])).alloc 4 lpSlot lpc
    generalize hL : (⟨4, lpSlot, s.hp.cnt 4 lpSlot⟩ : Lab) = L
    generalize hLn : (⟨4, 13, s.hp.cnt 4 13⟩ : Lab) = Ln
    rw [hLn] at hv
    have fL : L.f = 4 := by rw [← hL]
    have fLn : Ln.f = 4 := by rw [← hLn]
    have newL : h.con L = .none := by rw [← hL]; exact hH.new 4 lpSlot
    have newLn : h.con Ln = .none := by rw [← hLn]; exact hH.new 4 13
    have dL5 : (L5 = L) = False := by rw [← hL]; exact hne5 4 lpSlot
    have dL6 : (L6 = L) = False := by rw [← hL]; exact hne6 4 lpSlot
    have dL7 : (L7 = L) = False := by rw [← hL]; exact hne7 4 lpSlot
    have dn5 : (L5 = Ln) = False := by rw [← hLn]; exact hne5 4 13
    have dn6 : (L6 = Ln) = False := by rw [← hLn]; exact hne6 4 13
    have dn7 : (L7 = Ln) = False := by rw [← hLn]; exact hne7 4 13
    have dLn : (Ln = L) = False := by rw [← hLn, ← hL]; simp only [Lab.mk.injEq, lp13', false_and, and_false, true_and]
    have dnL : (L = Ln) = False := by rw [← hLn, ← hL]; simp only [Lab.mk.injEq, lp13, false_and, and_false, true_and]
    refine CallX.of (f41_spec L _ _ ns false w0 hlen qs ((qsOf_eq homes ns w0).trans hqs)
      (fun i g => g.con L = lpc ∧ g.con Ln = .blk [.int .i64 i] ∧ g.con L5 = .blk [.int .i64 w0, .int .i64 w1] ∧ g.con L6 = .blk [.bool false] ∧ g.con L7 = .blk [.l false 2 (qs.map pairA)] ∧ Keeps h g ∧ (i = 0 ∨ (i : Int) < w1))
      (fun i g => g.con L = lpWith lpc (.done (.exit 4)) ∧ g.con Ln = .blk [.int .i64 i] ∧ g.con L5 = .blk [.int .i64 w0, .int .i64 w1] ∧ g.con L6 = .blk [.bool false] ∧ g.con L7 = .blk [.l false 2 (qs.map pairA)] ∧ Keeps h g ∧ 1 ≤ i ∧ i ≤ qs.length ∧ w1 ≤ i ∧ (i = 1 ∨ (i : Int) - 1 < w1)) _ _ ?_ ?_ ?_ ?_ ?_)
    · rintro i g1 g2 La hLa fLa ⟨q1, q2, q3, q4, q5, q6, q7⟩ hg
      have nl : ∀ M : Lab, M.f = 4 → M ≠ La := fun M hM e => by rw [e, fLa] at hM; simp at hM
      refine ⟨by rw [hg L (nl L fL)]; exact q1, by rw [hg Ln (nl Ln fLn)]; exact q2, by rw [hg L5 (nl L5 f5)]; exact q3, by rw [hg L6 (nl L6 f6)]; exact q4, by rw [hg L7 (nl L7 f7)]; exact q5, fun M => ?_, q7⟩
      by_cases hM : M = La
      · left; subst hM
        rcases hv M with z | z
        · exact z
        · rw [← z]; exact hLa
      · rw [hg M hM]; exact q6 M
    · refine ⟨by simp only [go_sem, lp13, lp13', hL, hLn, Nat.reduceAdd, Nat.reduceBEq, Nat.reduceEqDiff, Nat.reduceLeDiff, Nat.reduceLT, Nat.reduceSub, Int.reduceToNat], by simp only [go_sem, lp13, lp13', hL, hLn, dLn, dnL, Nat.reduceAdd, Nat.reduceBEq, Nat.reduceEqDiff, Nat.reduceLeDiff, Nat.reduceLT, Nat.reduceSub, Int.reduceToNat]; rfl, by simp only [go_sem, lp13, lp13', hL, hLn, dL5, dn5, c5, Nat.reduceAdd, Nat.reduceBEq, Nat.reduceEqDiff, Nat.reduceLeDiff, Nat.reduceLT, Nat.reduceSub, Int.reduceToNat], by simp only [go_sem, lp13, lp13', hL, hLn, dL6, dn6, c6, Nat.reduceAdd, Nat.reduceBEq, Nat.reduceEqDiff, Nat.reduceLeDiff, Nat.reduceLT, Nat.reduceSub, Int.reduceToNat], by simp only [go_sem, lp13, lp13', hL, hLn, dL7, dn7, c7, Nat.reduceAdd, Nat.reduceBEq, Nat.reduceEqDiff, Nat.reduceLeDiff, Nat.reduceLT, Nat.reduceSub, Int.reduceToNat], hv, .inl rfl⟩
    · rintro i hi g1 ⟨q1, q2, q3, q4, q5, q6, q7⟩
      have hLk := lt_of_con q1 (by rw [hlp]; simp)
      have hw : IntKind.i64.wrap ((i : Int) + 1) = ((i + 1 : Nat) : Int) := wrapS (by omega)
      have hbk : ∀ c M, (((g1.set L .none).set Ln (.blk [.int .i64 ((i + 1 : Nat) : Int)])).back L c).con M = if M = L then c else ((g1.set L .none).set Ln (.blk [.int .i64 ((i + 1 : Nat) : Int)])).con M := fun c => back_con (show L.k < ((g1.set L .none).set Ln (.blk [.int .i64 ((i + 1 : Nat) : Int)])).cnt L.f L.s from hLk)
      have frame : ∀ c M, M.f = 41 → (((g1.set L .none).set Ln (.blk [.int .i64 ((i + 1 : Nat) : Int)])).back L c).con M = g1.con M := fun c M hM => by
        have m1 : (M = L) = False := eq_false (fun e => by rw [e, fL] at hM; simp at hM)
        have m2 : (M = Ln) = False := eq_false (fun e => by rw [e, fLn] at hM; simp at hM)
        simp only [go_sem, hbk, m1, m2, Nat.reduceAdd, Nat.reduceBEq, Nat.reduceEqDiff, Nat.reduceLeDiff, Nat.reduceLT, Nat.reduceSub, Int.reduceToNat]
      refine YieldX.round mixed 4 (fun _ => []) q1 hlp ntm4 (by decide) (by kernel_rfl) (by kernel_rfl) rfl ?_
      cases b3 : decide (((i + 1 : Nat) : Int) ≥ w1)
      · simp only [go_sem, b3, hw, hL, hLn, dLn, dnL, dL5, dL6, dL7, dn5, dn6, dn7, n65, n56, n75, n76, n57, n67, h5, h6, h7, h8, q2, q3, q4, q5, Nat.reduceAdd, Nat.reduceBEq, Nat.reduceEqDiff, Nat.reduceLeDiff, Nat.reduceLT, Nat.reduceSub, Int.reduceToNat]
        refine ⟨by omega, by decide, frame _, .inl ⟨?_, ?_, ?_, ?_, ?_, ((q6.set newL _).set newLn _).back newL _, ?_⟩⟩
        · simp only [go_sem, hbk, Nat.reduceAdd, Nat.reduceBEq, Nat.reduceEqDiff, Nat.reduceLeDiff, Nat.reduceLT, Nat.reduceSub, Int.reduceToNat]
        · simp only [go_sem, hbk, dLn, dnL, q2, Nat.reduceAdd, Nat.reduceBEq, Nat.reduceEqDiff, Nat.reduceLeDiff, Nat.reduceLT, Nat.reduceSub, Int.reduceToNat]
        · simp only [go_sem, hbk, dL5, dn5, q3, Nat.reduceAdd, Nat.reduceBEq, Nat.reduceEqDiff, Nat.reduceLeDiff, Nat.reduceLT, Nat.reduceSub, Int.reduceToNat]
        · simp only [go_sem, hbk, dL6, dn6, q4, Nat.reduceAdd, Nat.reduceBEq, Nat.reduceEqDiff, Nat.reduceLeDiff, Nat.reduceLT, Nat.reduceSub, Int.reduceToNat]
        · simp only [go_sem, hbk, dL7, dn7, q5, Nat.reduceAdd, Nat.reduceBEq, Nat.reduceEqDiff, Nat.reduceLeDiff, Nat.reduceLT, Nat.reduceSub, Int.reduceToNat]
        · right; simp at b3; omega
      · simp only [go_sem, b3, hw, hL, hLn, dLn, dnL, dL5, dL6, dL7, dn5, dn6, dn7, n65, n56, n75, n76, n57, n67, h5, h6, h7, h8, q2, q3, q4, q5, Nat.reduceAdd, Nat.reduceBEq, Nat.reduceEqDiff, Nat.reduceLeDiff, Nat.reduceLT, Nat.reduceSub, Int.reduceToNat]
        refine ⟨by omega, by decide, frame _, .inr ⟨?_, ?_, ?_, ?_, ?_, ((q6.set newL _).set newLn _).back newL _, by omega, by simp at b3; omega, ?_⟩⟩
        · simp only [go_sem, hbk, Nat.reduceAdd, Nat.reduceBEq, Nat.reduceEqDiff, Nat.reduceLeDiff, Nat.reduceLT, Nat.reduceSub, Int.reduceToNat]
        · simp only [go_sem, hbk, dLn, dnL, q2, Nat.reduceAdd, Nat.reduceBEq, Nat.reduceEqDiff, Nat.reduceLeDiff, Nat.reduceLT, Nat.reduceSub, Int.reduceToNat]
        · simp only [go_sem, hbk, dL5, dn5, q3, Nat.reduceAdd, Nat.reduceBEq, Nat.reduceEqDiff, Nat.reduceLeDiff, Nat.reduceLT, Nat.reduceSub, Int.reduceToNat]
        · simp only [go_sem, hbk, dL6, dn6, q4, Nat.reduceAdd, Nat.reduceBEq, Nat.reduceEqDiff, Nat.reduceLeDiff, Nat.reduceLT, Nat.reduceSub, Int.reduceToNat]
        · simp only [go_sem, hbk, dL7, dn7, q5, Nat.reduceAdd, Nat.reduceBEq, Nat.reduceEqDiff, Nat.reduceLeDiff, Nat.reduceLT, Nat.reduceSub, Int.reduceToNat]
        · rcases q7 with q7 | q7
          · left; omega
          · right; omega
    · rintro g ⟨q1, q2, q3, q4, q5, q6, q7⟩
      have q1' := q1.trans hlp
      have d0 : decide ((qs.length : Int) ≤ qs.length) = true := by simp
      cases b4 : decide (w1 < 1)
      · have d2 : ((qs.length : Int) == if (qs.length : Int) < w1 then (qs.length : Int) else w1) = true := by
          simp at b4 ⊢
          rcases q7 with q7 | q7 <;> omega
        simp only [go_sem, lp13, lp13', d0, d2, b4, hL, hLn, dLn, dnL, dL5, dL6, dL7, dn5, dn6, dn7, n65, n56, n75, n76, n57, n67, h5, h6, h7, h8, q1', q2, q3, q4, q5, Nat.reduceAdd, Nat.reduceBEq, Nat.reduceEqDiff, Nat.reduceLeDiff, Nat.reduceLT, Nat.reduceSub, Int.reduceToNat]
        exact ⟨by omega, by decide, by omega, by decide, (q6.set newL _).set n6 _⟩
      · simp only [go_sem, lp13, lp13', d0, b4, hL, hLn, dLn, dnL, dL5, dL6, dL7, dn5, dn6, dn7, n65, n56, n75, n76, n57, n67, h5, h6, h7, h8, q1', q2, q3, q4, q5, Nat.reduceAdd, Nat.reduceBEq, Nat.reduceEqDiff, Nat.reduceLeDiff, Nat.reduceLT, Nat.reduceSub, Int.reduceToNat]
        exact ⟨by omega, by decide, (q6.set newL _).set n6 _⟩
    · rintro i g ⟨q1, q2, q3, q4, q5, q6, q7, q8, q9, q10⟩
      have q1' := q1.trans (by rw [hlp, lpWith_lp])
      have d0 : decide ((i : Int) ≤ qs.length) = true := by rw [decide_eq_true_eq]; omega
      cases b4 : decide (w1 < 1)
      · have d2 : ((i : Int) == if (qs.length : Int) < w1 then (qs.length : Int) else w1) = true := by
          simp at b4 ⊢
          split <;> omega
        simp only [go_sem, lp13, lp13', d0, d2, b4, hL, hLn, dLn, dnL, dL5, dL6, dL7, dn5, dn6, dn7, n65, n56, n75, n76, n57, n67, h5, h6, h7, h8, q1', q2, q3, q4, q5, Nat.reduceAdd, Nat.reduceBEq, Nat.reduceEqDiff, Nat.reduceLeDiff, Nat.reduceLT, Nat.reduceSub, Int.reduceToNat]
        exact ⟨by omega, by decide, by omega, by decide, (q6.set newL _).set n6 _⟩
      · simp only [go_sem, lp13, lp13', d0, b4, hL, hLn, dLn, dnL, dL5, dL6, dL7, dn5, dn6, dn7, n65, n56, n75, n76, n57, n67, h5, h6, h7, h8, q1', q2, q3, q4, q5, Nat.reduceAdd, Nat.reduceBEq, Nat.reduceEqDiff, Nat.reduceLeDiff, Nat.reduceLT, Nat.reduceSub, Int.reduceToNat]
        exact ⟨by omega, by decide, (q6.set newL _).set n6 _⟩
  · simp only [go_sem, h0, h1, h5, h6, c5, c6, Nat.reduceAdd, Nat.reduceBEq, Nat.reduceEqDiff, Nat.reduceLeDiff, Nat.reduceLT, Nat.reduceSub, Int.reduceToNat]
    refine CallX.pure f12_spec ?_
    simp only [go_sem, b, h0, h1, h5, h6, c5, c6, Nat.reduceAdd, Nat.reduceBEq, Nat.reduceEqDiff, Nat.reduceLeDiff, Nat.reduceLT, Nat.reduceSub, Int.reduceToNat]
    exact hH.set n6 _
end Go.Proofs.Ytmajndgdfmnchaa
