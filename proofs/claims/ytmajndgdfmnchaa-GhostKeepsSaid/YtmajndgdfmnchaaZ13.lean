/- Part of a proof: what functions of the given program compute, and plain laws of it. -/
import Derived.Test.YtmajndgdfmnchaaZ12
import Derived.Test.YtmajndgdfmnchaaT4
/- Queue's iterator, by the rule for ranges. -/
namespace Go.Proofs.Ytmajndgdfmnchaa
open Go Go.T Go.Gh Go.Proofs
set_option linter.unusedSimpArgs false
set_option linter.unusedVariables false
set_option maxRecDepth 10000
set_option maxHeartbeats 4000000
theorem f41_specK (L : Lab) (home : Int) (known : Bool) (ns : List Note) (ex : Bool) (obj : Int) (hlen : ns.length < 2 ^ 30) (qs : List (Int × Int)) (hqs : qsOf known home obj ns = qs) (I D : Nat → Hp → Prop) (h : Hp) (K : AV → Hp → Prop)
    (hst : ∀ i g1 g2 (La : Lab), h.con La = .none → La.f = 41 → I i g1 → (∀ M : Lab, M ≠ La → g2.con M = g1.con M) → I i g2) (hI0 : I 0 h)
    (hY : ∀ i, (hi : i < qs.length) → ∀ g1, I i g1 → YieldK Try.prog L [.int .i64 qs[i].1, .int .i64 qs[i].2] g1
      (fun r g2 => (∀ M : Lab, M.f = 41 → g1.con M ≠ .none → g2.con M = g1.con M) ∧ ((r = .bool true ∧ I (i + 1) g2) ∨ (r = .bool false ∧ D (i + 1) g2))))
    (hK1 : ∀ g, I qs.length g → K (.tup []) g) (hK2 : ∀ i g, D i g → K (.tup []) g) :
    CallK Try.prog 41 [.yl L, .ip [.int .i64 home], .ip [.bool known], .ip [.l ex 6 (ns.map encN)], .ip [.int .i64 obj]] h K := by
  refine CallK.of_awpH mixed (fun _ => []) (fn := Try.f41) (by kernel_rfl) rfl (by kernel_rfl) (by show 5 ≤ _; decide) ?_
  refine awp_cut (fun s => s.slots 0 = .yl L ∧ s.slots 1 = .ip [.int .i64 home] ∧ s.slots 2 = .ip [.bool known] ∧ s.slots 3 = .ip [.l ex 6 (ns.map encN)] ∧ s.slots 4 = .ip [.int .i64 obj] ∧
    (∃ La : Lab, La.f = 41 ∧ h.con La = .none ∧ s.slots 6 = .pt La 0 0 0 ∧ s.hp.con La = .blk [.int .i64 home, .int .i64 0]) ∧ I 0 s.hp) ?_ ?_
  · simp only [go_sem, Nat.reduceAdd, Nat.reduceBEq, Nat.reduceEqDiff, Nat.reduceLeDiff, Nat.reduceLT, Nat.reduceSub]
    exact ⟨⟨_, by rfl, h.ok _ (by simp), rfl, by simp⟩, hst 0 h _ ⟨41, 6, h.cnt 41 6⟩ (h.ok _ (by simp)) rfl hI0 (fun M hM => by
      simp [Hp.set, Hp.alloc, hM])⟩
  rintro s ⟨h0, h1, h2, h3, h4, ⟨La, hLf, hLn, h6, ha⟩, hI⟩
  simp only [go_sem, h0, h1, h2, h3, h4, h6, Nat.reduceAdd, Nat.reduceBEq, Nat.reduceEqDiff, Nat.reduceLeDiff, Nat.reduceLT, Nat.reduceSub]
  rw [awp_loop]
  refine ⟨fun s => ∃ (i : Nat) (a : Int × Int), i ≤ ns.length + 1 ∧ i ≤ qs.length ∧ s.slots 0 = .yl L ∧ s.slots 1 = .ip [.int .i64 home] ∧ s.slots 2 = .ip [.bool known] ∧ s.slots 3 = .ip [.l ex 6 (ns.map encN)] ∧ s.slots 4 = .ip [.int .i64 obj] ∧
      s.slots 7 = .int .i64 i ∧ (∃ La : Lab, La.f = 41 ∧ h.con La = .none ∧ s.slots 6 = .pt La 0 0 0 ∧ s.hp.con La = .blk [.int .i64 a.1, .int .i64 a.2]) ∧ qs.drop i = (if known then queueL obj ns (ns.length + 1 - i) a else []) ∧ I i s.hp,
    fun s => match s.slots 7 with | .int _ i => (ns.length + 1 - i).toNat | _ => 0, ?_, ?_⟩
  · refine ⟨0, (home, 0), ?_⟩
    simp only [go_sem, h0, h1, h2, h3, h4, h6, Nat.reduceAdd, Nat.reduceBEq, Nat.reduceEqDiff, Nat.reduceLeDiff, Nat.reduceLT, Nat.reduceSub]
    refine ⟨by omega, by simp, ⟨La, hLf, hLn, rfl, ha⟩, by rw [← hqs]; rfl, hI⟩
  · clear h0 h1 h2 h3 h4 h6 ha hI hLf
    rintro s ⟨i, a, hi, hiq, h0, h1, h2, h3, h4, h7, ⟨La, hLf, hLn, h6, ha⟩, hd, hI⟩
    have hw : IntKind.i64.wrap ((i : Int) + 1) = ((i + 1 : Nat) : Int) := wrapS (by omega)
    cases known with
    | false =>
      have he : qs.length = i := by
        have := congrArg List.length hd
        simp at this; omega
      simp only [go_sem, h0, h1, h2, h3, h4, h6, h7, ha, hw, Nat.reduceAdd, Nat.reduceBEq, Nat.reduceEqDiff, Nat.reduceLeDiff, Nat.reduceLT, Nat.reduceSub]
      exact hK1 _ (by rw [he]; exact hI)
    | true =>
      cases b1 : decide ((i : Int) ≤ ns.length)
      · have : i = ns.length + 1 := by simp at b1; omega
        have he : qs.length = i := by
          have := congrArg List.length hd
          rw [show ns.length + 1 - i = 0 by omega] at this
          simp [queueL] at this; omega
        simp only [go_sem, b1, h0, h1, h2, h3, h4, h6, h7, ha, hw, Nat.reduceAdd, Nat.reduceBEq, Nat.reduceEqDiff, Nat.reduceLeDiff, Nat.reduceLT, Nat.reduceSub]
        exact hK1 _ (by rw [he]; exact hI)
      · have hle : i ≤ ns.length := by simpa using b1
        have hs : ns.length + 1 - i = (ns.length - i) + 1 := by omega
        simp only [if_true] at hd
        rw [hs] at hd
        simp only [queueL] at hd
        have hlt : i < qs.length := by
          have := congrArg List.length hd
          simp at this; omega
        have hq : qs[i] = a := by
          rw [List.drop_eq_getElem_cons hlt] at hd
          exact (List.cons.inj hd).1
        have hd2 : qs.drop (i + 1) = (match ns.find? (isNext obj a.1 a.2) with | some x => queueL obj ns (ns.length - i) (x.to, x.next) | none => []) := by
          rw [List.drop_eq_getElem_cons hlt] at hd
          exact (List.cons.inj hd).2
        simp only [go_sem, b1, h0, h1, h2, h3, h4, h6, h7, ha, hw, Nat.reduceAdd, Nat.reduceBEq, Nat.reduceEqDiff, Nat.reduceLeDiff, Nat.reduceLT, Nat.reduceSub]
        have hy := hY i hlt s.hp hI
        rw [hq] at hy
        refine YieldX.of (hy.mono ?_)
        rintro r g2 ⟨hfr, ⟨rfl, hI2⟩ | ⟨rfl, hD⟩⟩
        · have ha2 : g2.con La = .blk [.int .i64 a.1, .int .i64 a.2] := by rw [hfr La hLf (by rw [ha]; simp)]; exact ha
          simp only [go_sem, b1, ha2, h0, h1, h2, h3, h4, h6, h7, ha, hw, Nat.reduceAdd, Nat.reduceBEq, Nat.reduceEqDiff, Nat.reduceLeDiff, Nat.reduceLT, Nat.reduceSub]
          refine CallX.at (f42_spec (isNext obj a.1 a.2) ns ex (by omega) g2 (by simp only [go_sem]) (fun x _ => f43_spec obj a.1 a.2 La g2 ha2 x)) ?_
          rcases idxP_cases (isNext obj a.1 a.2) ns with ⟨hp, hf⟩ | ⟨j, hj, hp, hf⟩
          · rw [hp]
            have hneg : decide ((-1 : Int) < 0) = true := by decide
            simp only [go_sem, hneg, b1, ha2, h0, h1, h2, h3, h4, h6, h7, ha, hw, Nat.reduceAdd, Nat.reduceBEq, Nat.reduceEqDiff, Nat.reduceLeDiff, Nat.reduceLT, Nat.reduceSub]
            rw [hf] at hd2
            have he : qs.length = i + 1 := by
              have := congrArg List.length hd2
              simp at this; omega
            exact hK1 _ (by rw [he]; exact hI2)
          · rw [hp]
            have hneg : decide ((j : Int) < 0) = false := by simp
            have hdec : (((ns.length : Int) + 1 - ((i + 1 : Nat) : Int)).toNat < ((ns.length : Int) + 1 - (i : Int)).toNat) := by omega
            simp only [go_sem, hneg, b1, ha2, encN_cells, h0, h1, h2, h3, h4, h6, h7, ha, hw, Nat.reduceAdd, Nat.reduceBEq, Nat.reduceEqDiff, Nat.reduceLeDiff, Nat.reduceLT, Nat.reduceSub]
            rw [hf] at hd2
            simp only at hd2
            refine ⟨by omega, hj, by omega, hj, ⟨i + 1, (ns[j].to, ns[j].next), by omega, by omega, rfl, ⟨La, hLf, hLn, rfl, by simp only [go_sem, ha2, Nat.reduceAdd, Nat.reduceBEq, Nat.reduceEqDiff, Nat.reduceLeDiff, Nat.reduceLT, Nat.reduceSub]⟩, ?_, hst _ _ _ La hLn hLf hI2 (fun M hM => ?_)⟩, hdec⟩
            · rw [hd2, show ns.length + 1 - (i + 1) = ns.length - i by omega]
            · simp [Hp.set, hM]
        · simp only [go_sem, b1, h0, h1, h2, h3, h4, h6, h7, ha, hw, Nat.reduceAdd, Nat.reduceBEq, Nat.reduceEqDiff, Nat.reduceLeDiff, Nat.reduceLT, Nat.reduceSub]
          exact hK2 _ _ hD
theorem Queue_iter (home : Int) (known : Bool) (ns : List Note) (obj : Int) (hlen : ns.length < 2 ^ 30) :
    IterF Try.prog 41 [.ip [.int .i64 home], .ip [.bool known], .ip [.l false 6 (ns.map encN)], .ip [.int .i64 obj]] [41] ((qsOf known home obj ns).map fun q => [.int .i64 q.1, .int .i64 q.2]) := by
  intro L h K I D stab stabD hF h0 hY hK1 hK2
  refine f41_specK L home known ns false obj hlen _ rfl (fun i g => I i g) (fun _ g => D g) h K ?_ h0 ?_ ?_ ?_
  · intro i g1 g2 La hLa fLa hI hg
    refine stab i g1 g2 hI (fun M hM => hg M ?_) (hg L ?_)
    · rintro rfl
      rcases hM with h1 | h1
      · exact h1 hLa
      · exact h1.1 (by simp [fLa])
    · rintro rfl; exact hF (by simp [fLa])
  · intro i hi g1 hI
    have := hY i (by simpa using hi) g1 hI
    rw [List.getElem_map] at this
    exact this.mono fun r g2 ⟨q1, q2⟩ => ⟨fun M hM hn => q1 M (by simp [hM]) hn, q2⟩
  · intro g hg; exact hK1 g (by rw [List.length_map]; exact hg)
  · intro i g hg; exact hK2 g hg
end Go.Proofs.Ytmajndgdfmnchaa
