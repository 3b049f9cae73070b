/- The reference's Check. -/
import Derived.Test.YtmajndgdfmnchaaZE
namespace Go.Proofs.Ytmajndgdfmnchaa
open Go Go.T Go.Gh Go.Proofs
@[go_sem] theorem res14 : Try.f14.results = #[.tmp 4, .tmp 5] := by kernel_rfl
def I (n : Int) : AV := .int .i64 n
theorem I_eq (n : Int) : I n = .int .i64 n := by simp [I]
theorem I_cells (n : Int) : (I n).cells = [.int .i64 n] := by simp [I, AV.cells]
def pairV (r : Int × Int) : AV := .tup [.int .i64 r.1, .int .i64 r.2]
set_option linter.unusedSimpArgs false
set_option maxRecDepth 10000 in
set_option maxHeartbeats 8000000 in
theorem f14_spec (homes : List Int) (eh : Bool) (ns : List Note) (ex : Bool) (hlen : ns.length < 2 ^ 61) :
    PureF Try.prog 14 [.l eh 1 (homes.map I), .l ex 6 (ns.map encN)] (pairV (checkR homes ns)) := by
  refine PureF.of_awp mixed (fun _ => []) (fn := Try.f14) (by kernel_rfl) rfl (by kernel_rfl) (by show 2 ≤ _; decide) (by simp [AV.lf, AV.lfs, pairV]) (fun h => ?_)
  by_cases hm : 8 < homes.length
  · have d0 : decide ((homes.length : Int) > 8) = true := by simp; omega
    have hr := checkR_bad (homes := homes) (ns := ns) (by simp [badHomes, hm])
    simp only [go_sem, hr, pairV, d0, Nat.reduceAdd, Nat.reduceBEq, Nat.reduceEqDiff, Nat.reduceLeDiff, Nat.reduceLT, Nat.reduceSub]
    exact Keeps.refl h
  have d0 : decide ((homes.length : Int) > 8) = false := by simp; omega
  refine awp_cut (fun s => s.slots 0 = .l eh 1 (homes.map I) ∧ s.slots 1 = .l ex 6 (ns.map encN) ∧ Keeps h s.hp) ?_ ?_
  · simp only [go_sem, d0, Nat.reduceAdd, Nat.reduceBEq, Nat.reduceEqDiff, Nat.reduceLeDiff, Nat.reduceLT, Nat.reduceSub]
    exact Keeps.refl h
  rintro s ⟨h0, h1, hH⟩
  refine awp_cut (fun s => s.slots 0 = .l eh 1 (homes.map I) ∧ s.slots 1 = .l ex 6 (ns.map encN) ∧ Keeps h s.hp) ?_ ?_
  · simp only [go_sem, d0, h0, h1, Nat.reduceAdd, Nat.reduceBEq, Nat.reduceEqDiff, Nat.reduceLeDiff, Nat.reduceLT, Nat.reduceSub]
    exact hH
  clear h0 h1 hH
  rintro s ⟨h0, h1, hH⟩
  refine awp_cut (fun s => s.slots 0 = .l eh 1 (homes.map I) ∧ s.slots 1 = .l ex 6 (ns.map encN) ∧ badHomes homes = false ∧ Keeps h s.hp) ?_ ?_
  · simp only [go_sem, h0, h1, Nat.reduceAdd, Nat.reduceBEq, Nat.reduceEqDiff, Nat.reduceLeDiff, Nat.reduceLT, Nat.reduceSub]
    rw [awp_loop]
    refine ⟨fun s => ∃ i : Nat, i ≤ homes.length ∧ s.slots 0 = .l eh 1 (homes.map I) ∧ s.slots 1 = .l ex 6 (ns.map encN) ∧ s.slots 13 = .l eh 1 (homes.map I) ∧ s.slots 14 = .int .i64 homes.length ∧ s.slots 15 = .int .i64 i ∧
      (homes.take i).any (fun h => decide (h < 0) || decide (32 ≤ h)) = false ∧ Keeps h s.hp,
      fun s => match s.slots 15 with | .int _ i => (homes.length - i).toNat | _ => 0, ?_, ?_⟩
    · refine ⟨0, ?_⟩
      simp only [go_sem, h0, h1, Nat.reduceAdd, Nat.reduceBEq, Nat.reduceEqDiff, Nat.reduceLeDiff, Nat.reduceLT, Nat.reduceSub]
      exact ⟨by omega, rfl, rfl, hH⟩
    · clear h0 h1 hH
      rintro s ⟨i, hi, h0, h1, h13, h14, h15, hb, hH⟩
      by_cases hlt : i < homes.length
      · have e0 : decide ((i : Int) < homes.length) = true := by simpa using hlt
        have hw : IntKind.i64.wrap ((i : Int) + 1) = ((i + 1 : Nat) : Int) := wrapS (by omega)
        have hdec : (((homes.length : Int) - ((i + 1 : Nat) : Int)).toNat < ((homes.length : Int) - (i : Int)).toNat) := by omega
        have hst : (homes.take (i + 1)).any (fun h => decide (h < 0) || decide (32 ≤ h)) = (decide (homes[i] < 0) || decide (32 ≤ homes[i])) := by
          rw [List.take_succ_eq_append_getElem hlt, List.any_append, hb]; simp
        have hbad : (decide (homes[i] < 0) || decide (32 ≤ homes[i])) = true → checkR homes ns = (0, 1) := fun hc => checkR_bad (by
          simp only [badHomes, Bool.or_eq_true]; right
          exact List.any_eq_true.2 ⟨homes[i], List.getElem_mem hlt, hc⟩)
        cases b1 : decide (homes[i] < 0) <;> cases b2 : decide (homes[i] ≥ 32)
        · have b2' : decide (32 ≤ homes[i]) = false := b2
          rw [b1, b2'] at hst
          simp only [go_sem, e0, b1, b2, hw, h0, h1, h13, h14, h15, I_cells, Nat.reduceAdd, Nat.reduceBEq, Nat.reduceEqDiff, Nat.reduceLeDiff, Nat.reduceLT, Nat.reduceSub]
          exact ⟨by omega, hlt, ⟨i + 1, hlt, rfl, hst, hH⟩, hdec⟩
        · have b2' : decide (32 ≤ homes[i]) = true := b2
          have hbad := hbad (by rw [b1, b2']; rfl)
          simp only [go_sem, hbad, pairV, e0, b1, b2, hw, h0, h1, h13, h14, h15, I_cells, Nat.reduceAdd, Nat.reduceBEq, Nat.reduceEqDiff, Nat.reduceLeDiff, Nat.reduceLT, Nat.reduceSub]
          exact ⟨by omega, hlt, hH⟩
        · have hbad := hbad (by rw [b1]; rfl)
          simp only [go_sem, hbad, pairV, e0, b1, b2, hw, h0, h1, h13, h14, h15, I_cells, Nat.reduceAdd, Nat.reduceBEq, Nat.reduceEqDiff, Nat.reduceLeDiff, Nat.reduceLT, Nat.reduceSub]
          exact ⟨by omega, hlt, hH⟩
        · have hbad := hbad (by rw [b1]; rfl)
          simp only [go_sem, hbad, pairV, e0, b1, b2, hw, h0, h1, h13, h14, h15, I_cells, Nat.reduceAdd, Nat.reduceBEq, Nat.reduceEqDiff, Nat.reduceLeDiff, Nat.reduceLT, Nat.reduceSub]
          exact ⟨by omega, hlt, hH⟩
      · have e0 : decide ((i : Int) < homes.length) = false := by simpa using hlt
        have : i = homes.length := by omega
        subst this
        rw [List.take_length] at hb
        simp only [go_sem, e0, h0, h1, h13, h14, h15, Nat.reduceAdd, Nat.reduceBEq, Nat.reduceEqDiff, Nat.reduceLeDiff, Nat.reduceLT, Nat.reduceSub]
        exact ⟨by simp only [badHomes, hb, hm]; simp, hH⟩
  clear h0 h1 hH
  rintro s ⟨h0, h1, hbh, hH⟩
  simp only [go_sem, h0, h1, Nat.reduceAdd, Nat.reduceBEq, Nat.reduceEqDiff, Nat.reduceLeDiff, Nat.reduceLT, Nat.reduceSub]
  rw [awp_loop]
  refine ⟨fun s => ∃ i : Nat, i ≤ ns.length ∧ s.slots 0 = .l eh 1 (homes.map I) ∧ s.slots 1 = .l ex 6 (ns.map encN) ∧ s.slots 26 = .l ex 6 (ns.map encN) ∧ s.slots 27 = .int .i64 ns.length ∧ s.slots 28 = .int .i64 i ∧
      (∀ j, j < i → goodAt homes ns j = true) ∧ Keeps h s.hp,
      fun s => match s.slots 28 with | .int _ i => (ns.length - i).toNat | _ => 0, ?_, ?_⟩
  · refine ⟨0, ?_⟩
    simp only [go_sem, h0, h1, Nat.reduceAdd, Nat.reduceBEq, Nat.reduceEqDiff, Nat.reduceLeDiff, Nat.reduceLT, Nat.reduceSub]
    exact ⟨by omega, rfl, fun j hj => by omega, hH⟩
  · clear h0 h1 hH
    rintro s ⟨i, hi, h0, h1, h13, h14, h15, hg, hH⟩
    by_cases hlt : i < ns.length
    · have e0 : decide ((i : Int) < ns.length) = true := by simpa using hlt
      have hw : IntKind.i64.wrap ((i : Int) + 1) = ((i + 1 : Nat) : Int) := wrapS (by omega)
      have hdec : (((ns.length : Int) - ((i + 1 : Nat) : Int)).toNat < ((ns.length : Int) - (i : Int)).toNat) := by omega
      have hv := hH.var 14 9 (.blk [.int .i64 0, .int .i64 0, .int .i64 0, .int .i64 0, .int .i64 0, .int .i64 0]) (.blk [.int .i64 ns[i].kind, .int .i64 ns[i].obj, .int .i64 ns[i].node, .int .i64 ns[i].num, .int .i64 ns[i].to, .int .i64 ns[i].next])
      have hge := goodAt_eq (homes := homes) hlt
      have hbad : goodAt homes ns i = false → checkR homes ns = ((i : Int), 25) := fun hb => checkR_at hbh hlt hg hb
      have hnext : goodAt homes ns i = true → ∀ j, j < i + 1 → goodAt homes ns j = true := fun hb j hj => by
        rcases Nat.lt_or_ge j i with h1 | h1
        · exact hg j h1
        · have : j = i := by omega
          subst this; exact hb
      rcases two (decide (ns[i].obj < 0)) (decide (ns[i].obj ≥ homes.length)) with b1 | ⟨b1, b2⟩ | ⟨b1, b2⟩
      · cases b2 : decide (ns[i].obj ≥ homes.length)
        · have o0 : 0 ≤ ns[i].obj := by simpa using b1
          have o1 : ns[i].obj < homes.length := by simpa using b2
          have hkl : ns[i].obj.toNat < homes.length := by omega
          have hcg : checkB homes (ns.take i) ns[i] = canB homes[ns[i].obj.toNat] (ns.take i) ns[i] := by
            have e1 : decide (ns[i].obj < homes.length) = true := by simpa using o1
            simp [checkB, o0, e1, hkl]
          have hcall := f39_spec homes[ns[i].obj.toNat] (ns.take i) false ns[i] (by simp; omega)
          rw [List.map_take] at hcall
          simp only [go_sem, e0, b1, b2, hw, h0, h1, h13, h14, h15, I_cells, encN_cells, Nat.reduceAdd, Nat.reduceBEq, Nat.reduceEqDiff, Nat.reduceLeDiff, Nat.reduceLT, Nat.reduceSub]
          refine ⟨by omega, hlt, o0, hkl, by omega, by omega, CallX.pure hcall ?_⟩
          cases hcb : canB homes[ns[i].obj.toNat] (ns.take i) ns[i]
          · rw [hcb] at hcg
            simp only [go_sem, hbad (hge.trans hcg), pairV, hcb, e0, b1, b2, hw, h0, h1, h13, h14, h15, I_cells, encN_cells, Nat.reduceAdd, Nat.reduceBEq, Nat.reduceEqDiff, Nat.reduceLeDiff, Nat.reduceLT, Nat.reduceSub]
            exact hv
          · rw [hcb] at hcg
            simp only [go_sem, hcb, e0, b1, b2, hw, h0, h1, h13, h14, h15, I_cells, encN_cells, Nat.reduceAdd, Nat.reduceBEq, Nat.reduceEqDiff, Nat.reduceLeDiff, Nat.reduceLT, Nat.reduceSub]
            exact ⟨⟨i + 1, hlt, rfl, hnext (hge.trans hcg), hv⟩, hdec⟩
        · have hgb : goodAt homes ns i = false := by
            rw [hge]; simp only [checkB]
            have : decide (ns[i].obj < homes.length) = false := by simpa using b2
            rw [this]; simp
          simp only [go_sem, hbad hgb, pairV, e0, b1, b2, hw, h0, h1, h13, h14, h15, I_cells, encN_cells, Nat.reduceAdd, Nat.reduceBEq, Nat.reduceEqDiff, Nat.reduceLeDiff, Nat.reduceLT, Nat.reduceSub]
          exact ⟨by omega, hlt, hv⟩
      all_goals
        have hgb : goodAt homes ns i = false := by
          rw [hge]; simp only [checkB]
          have : decide (0 ≤ ns[i].obj) = false := by simpa using b1
          rw [this]; simp
        simp only [go_sem, hbad hgb, pairV, e0, b1, hw, h0, h1, h13, h14, h15, I_cells, encN_cells, Nat.reduceAdd, Nat.reduceBEq, Nat.reduceEqDiff, Nat.reduceLeDiff, Nat.reduceLT, Nat.reduceSub]
        exact ⟨by omega, hlt, hv⟩
    · have e0 : decide ((i : Int) < ns.length) = false := by simpa using hlt
      have : i = ns.length := by omega
      subst this
      have hr := checkR_ok hbh hg
      simp only [go_sem, hr, pairV, e0, h0, h1, h13, h14, h15, Nat.reduceAdd, Nat.reduceBEq, Nat.reduceEqDiff, Nat.reduceLeDiff, Nat.reduceLT, Nat.reduceSub]
      exact hH
end Go.Proofs.Ytmajndgdfmnchaa
