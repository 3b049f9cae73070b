/- Part of a proof: what functions of the given program compute, and plain laws of it. -/
import Derived.Test.YtocfaflghcgniaaDoorZ8
/- ScriptWords: the walk. -/
namespace Go.Proofs.YtocfaflghcgniaaDoor
open Go Go.T Go.Proofs Go.Sc Go.RowKit
set_option linter.unusedSimpArgs false
set_option linter.unusedVariables false
set_option maxRecDepth 10000
set_option maxHeartbeats 4000000
theorem Words_at (ss : List Stp) (ex : Bool) (bl : List Int) (ex' : Bool) (h : Hp) (hp : h.con powL = powC) (hl : ss.length < 2 ^ 60) (hb : bl.length < 2 ^ 60) : CallK Tryd.prog 6 [.l ex 5 (ss.map encP), .l ex' 1 (bl.map I)] h (fun r _ => r = .bool true) := by
  refine CallK.of_awpH mixed (fun _ => []) (fn := Tryd.f6) (by kernel_rfl) rfl (by kernel_rfl) (by show 2 ≤ _; decide) ?_
  rw [awp_assoc, awp_assoc, awp_assoc, awp_assoc, awp_assoc, awp_assoc, awp_mid]
  refine awp_cut (fun s => ∃ said, textR ss = some said ∧ ss.length ≤ 1024 ∧ said.length ≤ 4096 ∧ s.slots 0 = .l ex 5 (ss.map encP) ∧ s.slots 1 = .l ex' 1 (bl.map I) ∧ s.slots 5 = strV said ∧ s.slots 7 = strV [] ∧ s.slots 8 = .int .i64 0 ∧ s.slots 9 = .int .i64 0 ∧ s.hp = h) ?_ ?_
  · obtain ⟨o, ho⟩ : ∃ o, textR ss = o := ⟨_, rfl⟩
    repeat' first
      | (with_reducible refine CondX.dec (fun c => ?_) (fun c => ?_)) <;> try (exfalso; omega)
      | (with_reducible refine CondX.beq (fun c => ?_) (fun c => ?_)) <;> try (exfalso; omega)
      | (with_reducible refine CondX.bne (fun c => ?_) (fun c => ?_)) <;> try (exfalso; omega)
      | (with_reducible refine CondX.bool (fun c => ?_) (fun c => ?_)) <;> try (exfalso; omega)
      | ((with_reducible refine CallX.id ?_); first | refine CallX.at (wakes_at h hp) ?_)
      | simp only [go_sem, I_eq, I_cells, List.length_map, Nat.reduceAdd, Nat.reduceBEq, Nat.reduceEqDiff, Nat.reduceLeDiff, Nat.reduceLT, Nat.reduceSub]
      | simp (disch := omega) only [wrap_in, toNat_succ, toNat_pred, Int.toNat_natCast]
      | with_reducible refine And.intro (by omega) ?_
      | with_reducible refine exI (by omega) ?_
      | fail
    refine CallX.at (Text_at ss ex (by omega) h hp) ?_
    rw [ho]
    cases o with
    | none =>
      repeat' first
        | (with_reducible refine CondX.dec (fun c => ?_) (fun c => ?_)) <;> try (exfalso; omega)
        | (with_reducible refine CondX.beq (fun c => ?_) (fun c => ?_)) <;> try (exfalso; omega)
        | (with_reducible refine CondX.bne (fun c => ?_) (fun c => ?_)) <;> try (exfalso; omega)
        | (with_reducible refine CondX.bool (fun c => ?_) (fun c => ?_)) <;> try (exfalso; omega)
        | simp only [go_sem, I_eq, I_cells, textV, List.length_map, Option.getD_none, Option.isSome_none, Nat.reduceAdd, Nat.reduceBEq, Nat.reduceEqDiff, Nat.reduceLeDiff, Nat.reduceLT, Nat.reduceSub]
        | simp (disch := omega) only [wrap_in, toNat_succ, toNat_pred, Int.toNat_natCast]
        | with_reducible refine And.intro (by omega) ?_
        | with_reducible refine exI (by omega) ?_
        | fail
    | some said =>
      repeat' first
        | (with_reducible refine CondX.dec (fun c => ?_) (fun c => ?_)) <;> try (exfalso; omega)
        | (with_reducible refine CondX.beq (fun c => ?_) (fun c => ?_)) <;> try (exfalso; omega)
        | (with_reducible refine CondX.bne (fun c => ?_) (fun c => ?_)) <;> try (exfalso; omega)
        | (with_reducible refine CondX.bool (fun c => ?_) (fun c => ?_)) <;> try (exfalso; omega)
        | simp only [go_sem, I_eq, I_cells, textV, List.length_map, Option.getD_some, Option.isSome_some, Nat.reduceAdd, Nat.reduceBEq, Nat.reduceEqDiff, Nat.reduceLeDiff, Nat.reduceLT, Nat.reduceSub]
        | simp (disch := omega) only [wrap_in, toNat_succ, toNat_pred, Int.toNat_natCast]
        | with_reducible refine And.intro (by omega) ?_
        | with_reducible refine exI (by omega) ?_
        | fail
      exact ⟨said, rfl, by omega, by omega, rfl⟩
  rintro s ⟨said, hsaid, hss, hsl, p0, p1, p5, p7, p8, p9, rfl⟩
  refine awp_cutF [(7, 11), (31, 83)] (by kernel_rfl) (fun t => ∃ txt, t.slots 7 = strV txt ∧ txt.length ≤ 5 * said.length ∧ (32 :: txt).foldl stepW s0 = said.foldl stepW s0 ∧ t.hp = s.hp) ?_ ?_
  · rw [awp_block]
    refine awp_forF [(7, 11), (31, 83)] (by kernel_rfl) 9 said.length (by omega) (fun i t => ∃ (txt : Bs) (a : Nat), t.slots 7 = strV txt ∧ t.slots 8 = .int .i64 a ∧ a ≤ i ∧ txt.length ≤ 5 * i ∧ (32 :: txt).foldl stepW s0 = (said.take i).foldl stepW s0 ∧ t.hp = s.hp) ?_ ?_ ?_ ?_
    · exact p9
    · exact ⟨[], 0, p7, p8, by omega, by simp, by simp [stepW, s0, endW], rfl⟩
    · rintro i t hlt d2 hw fr g9 ⟨txt, a, q7, q8, ha, htl, hf, hH⟩
      have htk : said.take (i + 1) = said.take i ++ [said.getD i 0] := by rw [List.take_succ_eq_append_getElem hlt]; simp [hlt]
      have hone : (said.drop i).take (i + 1 - i) = [said.getD i 0] := by rw [drop_getD hlt, show i + 1 - i = 1 by omega]; rfl
      obtain ⟨x, hx⟩ : ∃ x, said.getD i 0 = x := ⟨_, rfl⟩
      rw [hx] at htk hone
      have h32 : (32 : UInt8).toNat = 32 := rfl
      have h10 : (10 : UInt8).toNat = 10 := rfl
      have hwa : IntKind.i64.wrap ((a : Int) + 1) = ((a + 1 : Nat) : Int) := by rw [IntWalk.i64_in _ (by omega)]; simp
      refine awp_cutF [(31, 34)] (by kernel_rfl) (fun u => u.hp = s.hp) ?_ ?_
      · repeat' first
          | (with_reducible refine CondX.dec (fun c => ?_) (fun c => ?_)) <;> try (exfalso; omega)
          | (with_reducible refine CondX.beq (fun c => ?_) (fun c => ?_)) <;> try (exfalso; omega)
          | (with_reducible refine CondX.bne (fun c => ?_) (fun c => ?_)) <;> try (exfalso; omega)
          | (with_reducible refine CondX.bool (fun c => ?_) (fun c => ?_)) <;> try (exfalso; omega)
          | simp only [go_sem, I_eq, I_cells, fr.at, p5, g9, d2, hH, Nat.reduceAdd, Nat.reduceBEq, Nat.reduceEqDiff, Nat.reduceLeDiff, Nat.reduceLT, Nat.reduceSub]
          | simp (disch := omega) only [wrap_in, toNat_succ, toNat_pred, Int.toNat_natCast]
          | with_reducible refine And.intro (by omega) ?_
          | with_reducible refine exI (by omega) ?_
          | fail
      rintro u0 fr0 hH0
      rw [awp_seq, awp_block, awp_assoc, awp_mid]
      refine awp_cutF [(8, 8), (10, 11), (37, 59)] (by kernel_rfl) (fun u => ∃ (n a' : Nat), u.slots 10 = .int .i64 n ∧ u.slots 8 = .int .i64 a' ∧ u.slots 11 = .int .i64 0 ∧ a' ≤ i + 1 ∧ n ≤ 3 ∧ (n = 0 ∨ x = 32 ∨ x = 10) ∧ u.hp = s.hp) ?_ ?_
      · repeat' first
          | (with_reducible refine CondX.dec (fun c => ?_) (fun c => ?_)) <;> try (exfalso; omega)
          | (with_reducible refine CondX.beq (fun c => ?_) (fun c => ?_)) <;> try (exfalso; omega)
          | (with_reducible refine CondX.bne (fun c => ?_) (fun c => ?_)) <;> try (exfalso; omega)
          | (with_reducible refine CondX.bool (fun c => ?_) (fun c => ?_)) <;> try (exfalso; omega)
          | simp only [go_sem, I_eq, I_cells, fr0.at, fr.at, p1, p5, g9, q8, hx, hH0, hwa, binK_and3, List.length_map, List.getElem_map, I_cells, Nat.reduceAdd, Nat.reduceBEq, Nat.reduceEqDiff, Nat.reduceLeDiff, Nat.reduceLT, Nat.reduceSub]
          | simp (disch := omega) only [wrap_in, toNat_succ, toNat_pred, Int.toNat_natCast]
          | with_reducible refine And.intro (by omega) ?_
          | with_reducible refine exI (by omega) ?_
          | fail
        all_goals first
          | exact ⟨0, a, rfl, rfl, by omega, by omega, .inl rfl⟩
          | exact ⟨and3 _, a + 1, rfl, rfl, by omega, and3_le _, .inr (.inl (UInt8.toNat_inj.1 (by omega)))⟩
          | exact ⟨and3 _, a + 1, rfl, rfl, by omega, and3_le _, .inr (.inr (UInt8.toNat_inj.1 (by omega)))⟩
      rintro u1 fr1 ⟨n, a', r10, r8, r11, ha', hn3, hnx, hH1⟩
      refine awp_cutF [(7, 7), (11, 11), (60, 66)] (by kernel_rfl) (fun u => u.slots 7 = strV (txt ++ List.replicate n 32) ∧ u.hp = s.hp) ?_ ?_
      · rw [awp_block]
        refine awp_forF [(7, 7), (11, 11), (60, 66)] (by kernel_rfl) 11 n (by omega) (fun k u => u.slots 7 = strV (txt ++ List.replicate k 32) ∧ u.hp = s.hp) ?_ ?_ ?_ ?_
        · exact r11
        · exact ⟨by rw [fr1.at (by rfl), fr0.at (by rfl), q7]; simp, hH1⟩
        · rintro k u hk d3 hw3 fr2 g11 ⟨y7, hH2⟩
          repeat' first
            | (with_reducible refine CondX.dec (fun c => ?_) (fun c => ?_)) <;> try (exfalso; omega)
            | (with_reducible refine CondX.beq (fun c => ?_) (fun c => ?_)) <;> try (exfalso; omega)
            | (with_reducible refine CondX.bne (fun c => ?_) (fun c => ?_)) <;> try (exfalso; omega)
            | (with_reducible refine CondX.bool (fun c => ?_) (fun c => ?_)) <;> try (exfalso; omega)
            | simp only [go_sem, I_eq, I_cells, fr2.at, r10, g11, d3, hw3, y7, hH2, List.length_append, List.length_replicate, Nat.reduceAdd, Nat.reduceBEq, Nat.reduceEqDiff, Nat.reduceLeDiff, Nat.reduceLT, Nat.reduceSub]
            | simp (disch := omega) only [wrap_in, toNat_succ, toNat_pred, Int.toNat_natCast]
            | with_reducible refine And.intro (by omega) ?_
            | with_reducible refine exI (by omega) ?_
            | fail
          rw [List.replicate_succ', List.append_assoc]
        · rintro u d3 fr2 g11 ⟨y7, hH2⟩
          repeat' first
            | (with_reducible refine CondX.dec (fun c => ?_) (fun c => ?_)) <;> try (exfalso; omega)
            | (with_reducible refine CondX.beq (fun c => ?_) (fun c => ?_)) <;> try (exfalso; omega)
            | (with_reducible refine CondX.bne (fun c => ?_) (fun c => ?_)) <;> try (exfalso; omega)
            | (with_reducible refine CondX.bool (fun c => ?_) (fun c => ?_)) <;> try (exfalso; omega)
            | simp only [go_sem, I_eq, I_cells, fr2.at, r10, g11, d3, y7, hH2, Nat.reduceAdd, Nat.reduceBEq, Nat.reduceEqDiff, Nat.reduceLeDiff, Nat.reduceLT, Nat.reduceSub]
            | simp (disch := omega) only [wrap_in, toNat_succ, toNat_pred, Int.toNat_natCast]
            | with_reducible refine And.intro (by omega) ?_
            | with_reducible refine exI (by omega) ?_
            | fail
      rintro u2 fr2 ⟨y7, hH2⟩
      have key : (32 :: (txt ++ List.replicate n 32 ++ [x])).foldl stepW s0 = (said.take (i + 1)).foldl stepW s0 := by
        show ((32 :: txt) ++ List.replicate n 32 ++ [x]).foldl stepW s0 = _
        rw [htk, List.foldl_append, List.foldl_append, List.foldl_append, hf]
        simp only [List.foldl_cons, List.foldl_nil]
        rcases hnx with h0 | h0 | h0
        · subst h0; rfl
        · exact fold_sp n _ _ (.inl h0)
        · exact fold_sp n _ _ (.inr h0)
      have key2 : x = 10 → (32 :: (txt ++ List.replicate n 32 ++ [x] ++ [10])).foldl stepW s0 = (said.take (i + 1)).foldl stepW s0 := fun h0 => by
        rw [← key]
        show ((32 :: (txt ++ List.replicate n 32)) ++ [x] ++ [10]).foldl stepW s0 = ((32 :: (txt ++ List.replicate n 32)) ++ [x]).foldl stepW s0
        rw [List.foldl_append, List.foldl_append]
        simp only [List.foldl_cons, List.foldl_nil]
        rw [h0]
        exact step_nl _
      repeat' first
        | (with_reducible refine CondX.dec (fun c => ?_) (fun c => ?_)) <;> try (exfalso; omega)
        | (with_reducible refine CondX.beq (fun c => ?_) (fun c => ?_)) <;> try (exfalso; omega)
        | (with_reducible refine CondX.bne (fun c => ?_) (fun c => ?_)) <;> try (exfalso; omega)
        | (with_reducible refine CondX.bool (fun c => ?_) (fun c => ?_)) <;> try (exfalso; omega)
        | simp only [go_sem, I_eq, I_cells, fr2.at, fr1.at, fr0.at, fr.at, p5, y7, g9, r8, r10, hw, hx, hone, hH2, List.length_append, List.length_replicate, Nat.reduceAdd, Nat.reduceBEq, Nat.reduceEqDiff, Nat.reduceLeDiff, Nat.reduceLT, Nat.reduceSub]
        | simp (disch := omega) only [wrap_in, toNat_succ, toNat_pred, Int.toNat_natCast]
        | with_reducible refine And.intro (by omega) ?_
        | with_reducible refine exI (by omega) ?_
        | fail
      all_goals first
        | exact ⟨_, a', rfl, rfl, ha', by simp; omega, key2 (UInt8.toNat_inj.1 (by omega))⟩
        | exact ⟨_, a', rfl, rfl, ha', by simp; omega, key⟩
    · rintro t d2 fr g9 ⟨txt, a, q7, q8, ha, htl, hf, hH⟩
      rw [List.take_length] at hf
      repeat' first
        | (with_reducible refine CondX.dec (fun c => ?_) (fun c => ?_)) <;> try (exfalso; omega)
        | (with_reducible refine CondX.beq (fun c => ?_) (fun c => ?_)) <;> try (exfalso; omega)
        | (with_reducible refine CondX.bne (fun c => ?_) (fun c => ?_)) <;> try (exfalso; omega)
        | (with_reducible refine CondX.bool (fun c => ?_) (fun c => ?_)) <;> try (exfalso; omega)
        | simp only [go_sem, I_eq, I_cells, fr.at, p5, g9, d2, Nat.reduceAdd, Nat.reduceBEq, Nat.reduceEqDiff, Nat.reduceLeDiff, Nat.reduceLT, Nat.reduceSub]
        | simp (disch := omega) only [wrap_in, toNat_succ, toNat_pred, Int.toNat_natCast]
        | with_reducible refine And.intro (by omega) ?_
        | with_reducible refine exI (by omega) ?_
        | fail
      exact ⟨txt, q7, htl, hf, hH⟩
  rintro t fr ⟨txt, q7, htl, hf, hH⟩
  have hpar := parse_pad hsaid hf (by omega) (by rw [List.length_cons]; omega)
  repeat' first
    | (with_reducible refine CondX.dec (fun c => ?_) (fun c => ?_)) <;> try (exfalso; omega)
    | (with_reducible refine CondX.beq (fun c => ?_) (fun c => ?_)) <;> try (exfalso; omega)
    | (with_reducible refine CondX.bne (fun c => ?_) (fun c => ?_)) <;> try (exfalso; omega)
    | (with_reducible refine CondX.bool (fun c => ?_) (fun c => ?_)) <;> try (exfalso; omega)
    | simp only [go_sem, I_eq, I_cells, fr.at, p0, p1, q7, hH, Nat.reduceAdd, Nat.reduceBEq, Nat.reduceEqDiff, Nat.reduceLeDiff, Nat.reduceLT, Nat.reduceSub]
    | simp (disch := omega) only [wrap_in, toNat_succ, toNat_pred, Int.toNat_natCast]
    | with_reducible refine And.intro (by omega) ?_
    | with_reducible refine exI (by omega) ?_
    | fail
  refine CallX.of ((Parse_spec _ s.hp).mono ?_)
  rw [hpar]
  rintro r H ⟨v, rfl, ga, gk⟩
  dsimp only at ga
  repeat' first
    | (with_reducible refine CondX.dec (fun c => ?_) (fun c => ?_)) <;> try (exfalso; omega)
    | (with_reducible refine CondX.beq (fun c => ?_) (fun c => ?_)) <;> try (exfalso; omega)
    | (with_reducible refine CondX.bne (fun c => ?_) (fun c => ?_)) <;> try (exfalso; omega)
    | (with_reducible refine CondX.bool (fun c => ?_) (fun c => ?_)) <;> try (exfalso; omega)
    | simp only [go_sem, I_eq, I_cells, fr.at, p0, p1, Nat.reduceAdd, Nat.reduceBEq, Nat.reduceEqDiff, Nat.reduceLeDiff, Nat.reduceLT, Nat.reduceSub]
    | simp (disch := omega) only [wrap_in, toNat_succ, toNat_pred, Int.toNat_natCast]
    | with_reducible refine And.intro (by omega) ?_
    | with_reducible refine exI (by omega) ?_
    | fail
  refine same_ol ga (by omega) (by omega) ?_
  rw [decide_eq_true rfl]
  repeat' first
    | (with_reducible refine CondX.dec (fun c => ?_) (fun c => ?_)) <;> try (exfalso; omega)
    | (with_reducible refine CondX.beq (fun c => ?_) (fun c => ?_)) <;> try (exfalso; omega)
    | (with_reducible refine CondX.bne (fun c => ?_) (fun c => ?_)) <;> try (exfalso; omega)
    | (with_reducible refine CondX.bool (fun c => ?_) (fun c => ?_)) <;> try (exfalso; omega)
    | simp only [go_sem, I_eq, I_cells, Nat.reduceAdd, Nat.reduceBEq, Nat.reduceEqDiff, Nat.reduceLeDiff, Nat.reduceLT, Nat.reduceSub]
    | simp (disch := omega) only [wrap_in, toNat_succ, toNat_pred, Int.toNat_natCast]
    | with_reducible refine And.intro (by omega) ?_
    | with_reducible refine exI (by omega) ?_
    | fail
end Go.Proofs.YtocfaflghcgniaaDoor
