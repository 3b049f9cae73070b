/- Part of a proof: what functions of the given program compute, and plain laws of it. -/
import Derived.Test.YtocfaflghcgniaaDoorZ8
/- ScriptLines. -/
namespace Go.Sc
theorem joinL_app : ∀ (a : List Bs) (l : Bs), joinL (a ++ [l]) = if a = [] then l else joinL a ++ 10 :: l := by
  intro a
  induction a with
  | nil => intro l; rfl
  | cons x r ih =>
    intro l
    rw [if_neg (by simp)]
    cases r with
    | nil => rfl
    | cons y r =>
      have := ih l
      rw [if_neg (by simp)] at this
      simp only [List.cons_append, joinL] at this ⊢
      rw [this]
      simp
theorem joinL_next {ls : List Bs} {i : Nat} (h : i < ls.length) : joinL (ls.take (i + 1)) = if i = 0 then ls[i] else joinL (ls.take i) ++ 10 :: ls[i] := by
  rw [List.take_succ_eq_append_getElem h, joinL_app]
  by_cases h0 : i = 0
  · subst h0; simp
  · have : ls.take i ≠ [] := fun e => by
      have := congrArg List.length e
      rw [List.length_take, List.length_nil] at this
      omega
    rw [if_neg this, if_neg h0]
/-- A line by itself. -/
theorem parse_one {l : Bs} (h : (10 : UInt8) ∉ l) (hl : l.length ≤ 65536) : parse 65536 4096 l = if bad l then ([], 1, 50) else (one l, 0, 0) := by
  unfold parse
  rw [if_neg (by omega), cut_one 10 l h, parseL_cons]
  unfold bad one
  by_cases hw : words l = []
  · rw [if_pos hw, if_pos hw, hw]; simp [parseL]
  · rw [if_neg hw, if_neg hw]
    have : (words l).isEmpty = false := by simpa using hw
    rw [this]
    cases hr : lineR (words l) with
    | none => simp
    | some s => simp [parseL]
/-- The first line that is none. -/
def BadAt (ls : List Bs) (b : Nat) : Prop := (b = 0 ∧ ls.all (fun l => !bad l) = true) ∨ ∃ a l c, ls = a ++ l :: c ∧ a.all (fun l => !bad l) = true ∧ bad l = true ∧ b = a.length + 1
theorem BadAt.next {ls : List Bs} {i b : Nat} (h : i < ls.length) (hb : BadAt (ls.take i) b) : BadAt (ls.take (i + 1)) (if bad ls[i] = true ∧ b = 0 then i + 1 else b) := by
  rw [List.take_succ_eq_append_getElem h]
  rcases hb with ⟨rfl, ha⟩ | ⟨a, l, c, e, ha, hl, rfl⟩
  · by_cases hx : bad ls[i] = true
    · rw [if_pos ⟨hx, rfl⟩]
      exact .inr ⟨ls.take i, ls[i], [], rfl, ha, hx, by rw [List.length_take]; omega⟩
    · rw [if_neg (fun e => hx e.1)]
      refine .inl ⟨rfl, ?_⟩
      rw [List.all_append, ha]
      simpa using hx
  · rw [if_neg (fun e => by omega)]
    exact .inr ⟨a, l, c ++ [ls[i]], by rw [e]; simp, ha, hl, rfl⟩
theorem parse_join {ls : List Bs} {b : Nat} (hn : ∀ l ∈ ls, (10 : UInt8) ∉ l) (hl : ls.length ≤ 4096) (ht : (joinL ls).length ≤ 65536) (hb : BadAt ls b) : parse 65536 4096 (joinL ls) = if b = 0 then (ls.flatMap one, 0, 0) else ([], b, 50) := by
  unfold parse
  rw [if_neg (by omega)]
  by_cases h0 : ls = []
  · subst h0
    rcases hb with ⟨rfl, _⟩ | ⟨a, l, c, e, _⟩
    · simp [joinL, cut, parseL, words]
    · simp at e
  · rw [cut_join ls h0 hn]
    rcases hb with ⟨rfl, ha⟩ | ⟨a, l, c, e, ha, hbl, rfl⟩
    · rw [if_pos rfl, parseL_ok 4096 ls 1 [] ha (by simpa using hl)]
      simp
    · rw [if_neg (by omega), parseL_bad 4096 ls 1 [] a l c e ha hbl (by rw [e] at hl; simp at hl ⊢; omega)]
      congr 2; omega
theorem flat_len : ∀ ls : List Bs, (ls.flatMap one).length ≤ ls.length := by
  intro ls
  induction ls with
  | nil => simp
  | cons l r ih => have := one_le l; simp only [List.flatMap_cons, List.length_append, List.length_cons]; omega
theorem flat_next {ls : List Bs} {i : Nat} (h : i < ls.length) : (ls.take (i + 1)).flatMap one = (ls.take i).flatMap one ++ one ls[i] := by
  rw [List.take_succ_eq_append_getElem h, List.flatMap_append]
  congr 1
  simp only [List.flatMap_cons, List.flatMap_nil, List.append_nil]
theorem one_bad {l : Bs} (h : bad l = true) : one l = [] := by
  unfold bad at h
  simp only [Bool.and_eq_true] at h
  unfold one
  split
  · rfl
  · rw [Option.isNone_iff_eq_none.1 h.2]; rfl
end Go.Sc
namespace Go.Proofs.YtocfaflghcgniaaDoor
open Go Go.T Go.Proofs Go.Sc Go.RowKit
set_option linter.unusedSimpArgs false
set_option linter.unusedVariables false
set_option maxRecDepth 10000
set_option maxHeartbeats 4000000
theorem Lines_at (ls : List Bs) (ex : Bool) (h : Hp) (hp : h.con powL = powC) (hl : ls.length < 2 ^ 60) (hls : ∀ l ∈ ls, l.length ≤ maxLen) : CallK Tryd.prog 8 [.l ex 1 (ls.map strV)] h (fun r _ => r = .bool true) := by
  refine CallK.of_awpH mixed (fun _ => []) (fn := Tryd.f8) (by kernel_rfl) rfl (by kernel_rfl) (by show 1 ≤ _; decide) ?_
  repeat' first
    | (with_reducible refine CondX.dec (fun c => ?_) (fun c => ?_)) <;> try (exfalso; omega)
    | (with_reducible refine CondX.beq (fun c => ?_) (fun c => ?_)) <;> try (exfalso; omega)
    | (with_reducible refine CondX.bne (fun c => ?_) (fun c => ?_)) <;> try (exfalso; omega)
    | (with_reducible refine CondX.bool (fun c => ?_) (fun c => ?_)) <;> try (exfalso; omega)
    | ((with_reducible refine CallX.id ?_); first | refine CallX.at (wakes_at h hp) ?_)
    | simp only [go_sem, I_eq, I_cells, List.length_map, Nat.reduceAdd, Nat.reduceBEq, Nat.reduceEqDiff, Nat.reduceLeDiff, Nat.reduceLT, Nat.reduceSub]
    | simp (disch := omega) only [wrap_in, toNat_succ, toNat_pred, Int.toNat_natCast]
    | with_reducible refine And.intro (by omega) ?_
    | with_reducible refine exI (by omega) ?_
    | fail
  refine awp_countF [(2, 11), (22, 79)] (by kernel_rfl) 22 21 (by kernel_rfl) ls.length (by omega) (fun i s => ∃ (v : AV) (b : Nat), s.slots 3 = strV (joinL (ls.take i)) ∧ s.slots 4 = v ∧ s.slots 5 = .int .i64 b ∧ Acc h s.hp 5 v (((ls.take i).flatMap one).map encP) ∧ Keeps h s.hp ∧
    (∀ l ∈ ls.take i, (10 : UInt8) ∉ l) ∧ (joinL (ls.take i)).length ≤ 301 * i ∧ BadAt (ls.take i) b) ?_ ?_ ?_ ?_ ?_
  · simp only [go_sem, I_eq, I_cells, List.length_map, Nat.reduceAdd, Nat.reduceBEq, Nat.reduceEqDiff, Nat.reduceLeDiff, Nat.reduceLT, Nat.reduceSub]
  · simp only [go_sem, I_eq, I_cells, List.length_map, Nat.reduceAdd, Nat.reduceBEq, Nat.reduceEqDiff, Nat.reduceLeDiff, Nat.reduceLT, Nat.reduceSub]
  · simp only [go_sem, I_eq, I_cells, Nat.reduceAdd, Nat.reduceBEq, Nat.reduceEqDiff, Nat.reduceLeDiff, Nat.reduceLT, Nat.reduceSub]
    exact ⟨_, 0, rfl, rfl, rfl, .nil, Keeps.refl _, (fun l hl => by cases hl), by simp [joinL], .inl ⟨rfl, rfl⟩⟩
  · rintro i s hlt d2 hw fr g22 g21 ⟨v, b, g3, g4, g5, ga, gk, hn, hjl, hb⟩
    have hxl : ls[i].length ≤ maxLen := hls _ (List.getElem_mem hlt)
    have hjn := joinL_next hlt
    have hfn := flat_next hlt
    have hbn := hb.next hlt
    obtain ⟨x, hx⟩ : ∃ x, ls[i] = x := ⟨_, rfl⟩
    rw [hx] at hxl hjn hfn hbn
    have hml : maxLen ≤ 9223372036854775807 := by decide
    have htn : (10 : UInt8) ∉ x → ∀ l ∈ ls.take (i + 1), (10 : UInt8) ∉ l := fun h1 l h2 => by
      rw [List.take_succ_eq_append_getElem hlt, hx] at h2
      rcases List.mem_append.1 h2 with h3 | h3
      · exact hn l h3
      · rw [List.mem_singleton.1 h3]; exact h1
    rw [awp_assoc]
    refine awp_cutF [(23, 23)] (by kernel_rfl) (fun u => u.hp = s.hp) ?_ ?_
    · repeat' first
        | (with_reducible refine CondX.dec (fun c => ?_) (fun c => ?_)) <;> try (exfalso; omega)
        | (with_reducible refine CondX.beq (fun c => ?_) (fun c => ?_)) <;> try (exfalso; omega)
        | (with_reducible refine CondX.bne (fun c => ?_) (fun c => ?_)) <;> try (exfalso; omega)
        | (with_reducible refine CondX.bool (fun c => ?_) (fun c => ?_)) <;> try (exfalso; omega)
        | simp only [go_sem, I_eq, I_cells, fr.at, g22, g21, d2, Nat.reduceAdd, Nat.reduceBEq, Nat.reduceEqDiff, Nat.reduceLeDiff, Nat.reduceLT, Nat.reduceSub]
        | simp (disch := omega) only [wrap_in, toNat_succ, toNat_pred, Int.toNat_natCast]
        | with_reducible refine And.intro (by omega) ?_
        | with_reducible refine exI (by omega) ?_
        | fail
    rintro u0 fr0 hH0
    rw [awp_seq, awp_block, awp_assoc, awp_assoc]
    refine awp_cutF [(2, 2), (6, 8), (24, 39)] (by kernel_rfl) (fun u => u.slots 6 = .int .i64 i ∧ u.slots 7 = strV x ∧ x.length ≤ 300 ∧ (10 : UInt8) ∉ x ∧ u.hp = s.hp) ?_ ?_
    · repeat' first
        | (with_reducible refine CondX.dec (fun c => ?_) (fun c => ?_)) <;> try (exfalso; omega)
        | (with_reducible refine CondX.beq (fun c => ?_) (fun c => ?_)) <;> try (exfalso; omega)
        | (with_reducible refine CondX.bne (fun c => ?_) (fun c => ?_)) <;> try (exfalso; omega)
        | (with_reducible refine CondX.bool (fun c => ?_) (fun c => ?_)) <;> try (exfalso; omega)
        | simp only [go_sem, I_eq, I_cells, fr0.at, fr.at, g22, g21, hx, hH0, List.length_map, List.getElem_map, cells_strV, Nat.reduceAdd, Nat.reduceBEq, Nat.reduceEqDiff, Nat.reduceLeDiff, Nat.reduceLT, Nat.reduceSub]
        | simp (disch := omega) only [wrap_in, toNat_succ, toNat_pred, Int.toNat_natCast]
        | with_reducible refine And.intro (by omega) ?_
        | with_reducible refine exI (by omega) ?_
        | fail
      refine awp_forF [(2, 2), (8, 8), (30, 39)] (by kernel_rfl) 8 x.length (by omega) (fun k u => (∀ y ∈ x.take k, y ≠ 10) ∧ u.hp = s.hp) ?_ ?_ ?_ ?_
      · simp only [go_sem, I_eq, I_cells, Nat.reduceAdd, Nat.reduceBEq, Nat.reduceEqDiff, Nat.reduceLeDiff, Nat.reduceLT, Nat.reduceSub]
      · simp only [go_sem, I_eq, I_cells, hH0, Nat.reduceAdd, Nat.reduceBEq, Nat.reduceEqDiff, Nat.reduceLeDiff, Nat.reduceLT, Nat.reduceSub]
        intro y hy; cases hy
      · rintro k u hk d3 hw3 fr2 g8 ⟨hy, hH2⟩
        have htk : x.take (k + 1) = x.take k ++ [x.getD k 0] := by rw [List.take_succ_eq_append_getElem hk]; simp [hk]
        obtain ⟨z, hz⟩ : ∃ z, x.getD k 0 = z := ⟨_, rfl⟩
        rw [hz] at htk
        repeat' first
          | (with_reducible refine CondX.dec (fun c => ?_) (fun c => ?_)) <;> try (exfalso; omega)
          | (with_reducible refine CondX.beq (fun c => ?_) (fun c => ?_)) <;> try (exfalso; omega)
          | (with_reducible refine CondX.bne (fun c => ?_) (fun c => ?_)) <;> try (exfalso; omega)
          | (with_reducible refine CondX.bool (fun c => ?_) (fun c => ?_)) <;> try (exfalso; omega)
          | simp only [go_sem, I_eq, I_cells, fr2.at, g8, d3, hw3, hz, hH2, Nat.reduceAdd, Nat.reduceBEq, Nat.reduceEqDiff, Nat.reduceLeDiff, Nat.reduceLT, Nat.reduceSub]
          | simp (disch := omega) only [wrap_in, toNat_succ, toNat_pred, Int.toNat_natCast]
          | with_reducible refine And.intro (by omega) ?_
          | with_reducible refine exI (by omega) ?_
          | fail
        rw [htk]
        intro y h1
        rcases List.mem_append.1 h1 with h2 | h2
        · exact hy y h2
        · rw [List.mem_singleton.1 h2]
          intro e
          rw [e] at c
          exact c rfl
      · rintro u d3 fr2 g8 ⟨hy, hH2⟩
        rw [List.take_length] at hy
        repeat' first
          | (with_reducible refine CondX.dec (fun c => ?_) (fun c => ?_)) <;> try (exfalso; omega)
          | (with_reducible refine CondX.beq (fun c => ?_) (fun c => ?_)) <;> try (exfalso; omega)
          | (with_reducible refine CondX.bne (fun c => ?_) (fun c => ?_)) <;> try (exfalso; omega)
          | (with_reducible refine CondX.bool (fun c => ?_) (fun c => ?_)) <;> try (exfalso; omega)
          | simp only [go_sem, I_eq, I_cells, fr2.at, fr0.at, fr.at, g22, g21, g8, d3, hH2, Nat.reduceAdd, Nat.reduceBEq, Nat.reduceEqDiff, Nat.reduceLeDiff, Nat.reduceLT, Nat.reduceSub]
          | simp (disch := omega) only [wrap_in, toNat_succ, toNat_pred, Int.toNat_natCast]
          | with_reducible refine And.intro (by omega) ?_
          | with_reducible refine exI (by omega) ?_
          | fail
        exact fun e => hy 10 e rfl
    rintro u1 fr1 ⟨r6, r7, hx3, hx10, hH1⟩
    rw [awp_assoc]
    refine awp_cutF [(3, 3), (40, 46)] (by kernel_rfl) (fun u => u.slots 3 = strV (joinL (ls.take (i + 1))) ∧ u.hp = s.hp) ?_ ?_
    · repeat' first
        | (with_reducible refine CondX.dec (fun c => ?_) (fun c => ?_)) <;> try (exfalso; omega)
        | (with_reducible refine CondX.beq (fun c => ?_) (fun c => ?_)) <;> try (exfalso; omega)
        | (with_reducible refine CondX.bne (fun c => ?_) (fun c => ?_)) <;> try (exfalso; omega)
        | (with_reducible refine CondX.bool (fun c => ?_) (fun c => ?_)) <;> try (exfalso; omega)
        | simp only [go_sem, I_eq, I_cells, fr1.at, fr0.at, fr.at, g3, r6, r7, hH1, Nat.reduceAdd, Nat.reduceBEq, Nat.reduceEqDiff, Nat.reduceLeDiff, Nat.reduceLT, Nat.reduceSub]
        | simp (disch := omega) only [wrap_in, toNat_succ, toNat_pred, Int.toNat_natCast]
        | with_reducible refine And.intro (by omega) ?_
        | with_reducible refine exI (by omega) ?_
        | fail
      · exact ⟨by rw [List.length_append, List.length_singleton]; omega, by rw [hjn, if_neg (by omega)]; simp⟩
      · have h0 : i = 0 := by omega
        subst h0
        rw [hjn, if_pos rfl]; simp [joinL]
    rintro u2 fr2 ⟨q3, hH2⟩
    repeat' first
      | (with_reducible refine CondX.dec (fun c => ?_) (fun c => ?_)) <;> try (exfalso; omega)
      | (with_reducible refine CondX.beq (fun c => ?_) (fun c => ?_)) <;> try (exfalso; omega)
      | (with_reducible refine CondX.bne (fun c => ?_) (fun c => ?_)) <;> try (exfalso; omega)
      | (with_reducible refine CondX.bool (fun c => ?_) (fun c => ?_)) <;> try (exfalso; omega)
      | simp only [go_sem, I_eq, I_cells, fr2.at, fr1.at, fr0.at, fr.at, g4, g5, r6, r7, hH2, Nat.reduceAdd, Nat.reduceBEq, Nat.reduceEqDiff, Nat.reduceLeDiff, Nat.reduceLT, Nat.reduceSub]
      | simp (disch := omega) only [wrap_in, toNat_succ, toNat_pred, Int.toNat_natCast]
      | with_reducible refine And.intro (by omega) ?_
      | with_reducible refine exI (by omega) ?_
      | fail
    refine CallX.of ((Parse_spec _ s.hp).mono ?_)
    rw [parse_one hx10 (by omega)]
    rintro r H ⟨v2, rfl, ga2, gk2⟩
    have hj2 : (joinL (ls.take (i + 1))).length ≤ 301 * (i + 1) := by
      rw [hjn]
      split
      · omega
      · simp; omega
    have hfl := flat_len (ls.take i)
    rw [List.length_take] at hfl
    have h1l := one_le x
    by_cases hbx : bad x = true
    · rw [if_pos hbx] at ga2 ⊢
      dsimp only at ga2
      have hlE : ∀ K, lenK H v2 K = K (.int .i64 0) := fun K => by rw [ga2.lenE]; rfl
      obtain ⟨sz', hel, hsz⟩ := ga2.elems
      repeat' first
        | (with_reducible refine CondX.dec (fun c => ?_) (fun c => ?_)) <;> try (exfalso; omega)
        | (with_reducible refine CondX.beq (fun c => ?_) (fun c => ?_)) <;> try (exfalso; omega)
        | (with_reducible refine CondX.bne (fun c => ?_) (fun c => ?_)) <;> try (exfalso; omega)
        | (with_reducible refine CondX.bool (fun c => ?_) (fun c => ?_)) <;> try (exfalso; omega)
        | simp only [go_sem, I_eq, I_cells, fr2.at, fr1.at, fr0.at, fr.at, g4, g5, r6, r7, hlE, hel, Nat.reduceAdd, Nat.reduceBEq, Nat.reduceEqDiff, Nat.reduceLeDiff, Nat.reduceLT, Nat.reduceSub]
        | simp (disch := omega) only [wrap_in, toNat_succ, toNat_pred, Int.toNat_natCast]
        | with_reducible refine And.intro (by omega) ?_
        | with_reducible refine exI (by omega) ?_
        | fail
      · refine ⟨fun e => absurd rfl e, (ga.keep gk2).app (gk.trans gk2) (by simp only [List.length_map, List.length_nil]; omega) (by simp only [List.length_map, List.length_nil]; omega) (by decide) fun H' v' a' kp' f1 f2 ev => ?_⟩
        repeat' first
          | (with_reducible refine CondX.dec (fun c => ?_) (fun c => ?_)) <;> try (exfalso; omega)
          | (with_reducible refine CondX.beq (fun c => ?_) (fun c => ?_)) <;> try (exfalso; omega)
          | (with_reducible refine CondX.bne (fun c => ?_) (fun c => ?_)) <;> try (exfalso; omega)
          | (with_reducible refine CondX.bool (fun c => ?_) (fun c => ?_)) <;> try (exfalso; omega)
          | simp only [go_sem, I_eq, I_cells, fr2.at, fr1.at, fr0.at, fr.at, g22, g21, g4, g5, q3, r6, r7, hw, Nat.reduceAdd, Nat.reduceBEq, Nat.reduceEqDiff, Nat.reduceLeDiff, Nat.reduceLT, Nat.reduceSub]
          | simp (disch := omega) only [wrap_in, toNat_succ, toNat_pred, Int.toNat_natCast]
          | with_reducible refine And.intro (by omega) ?_
          | with_reducible refine exI (by omega) ?_
          | fail
        rw [if_pos ⟨hbx, by omega⟩] at hbn
        exact ⟨v', i + 1, rfl, by simp, by rw [hfn, one_bad hbx, List.append_nil]; simpa using a', kp', htn hx10, hj2, hbn⟩
      · refine ⟨fun e => absurd rfl e, (ga.keep gk2).app (gk.trans gk2) (by simp only [List.length_map, List.length_nil]; omega) (by simp only [List.length_map, List.length_nil]; omega) (by decide) fun H' v' a' kp' f1 f2 ev => ?_⟩
        repeat' first
          | (with_reducible refine CondX.dec (fun c => ?_) (fun c => ?_)) <;> try (exfalso; omega)
          | (with_reducible refine CondX.beq (fun c => ?_) (fun c => ?_)) <;> try (exfalso; omega)
          | (with_reducible refine CondX.bne (fun c => ?_) (fun c => ?_)) <;> try (exfalso; omega)
          | (with_reducible refine CondX.bool (fun c => ?_) (fun c => ?_)) <;> try (exfalso; omega)
          | simp only [go_sem, I_eq, I_cells, fr2.at, fr1.at, fr0.at, fr.at, g22, g21, g4, g5, q3, r6, r7, hw, Nat.reduceAdd, Nat.reduceBEq, Nat.reduceEqDiff, Nat.reduceLeDiff, Nat.reduceLT, Nat.reduceSub]
          | simp (disch := omega) only [wrap_in, toNat_succ, toNat_pred, Int.toNat_natCast]
          | with_reducible refine And.intro (by omega) ?_
          | with_reducible refine exI (by omega) ?_
          | fail
        rw [if_neg (fun e => by omega)] at hbn
        exact ⟨v', b, rfl, rfl, by rw [hfn, one_bad hbx, List.append_nil]; simpa using a', kp', htn hx10, hj2, hbn⟩
    · rw [if_neg hbx] at ga2 ⊢
      dsimp only at ga2
      have hlE : ∀ K, lenK H v2 K = K (.int .i64 (one x).length) := fun K => by rw [ga2.lenE, List.length_map]
      obtain ⟨sz', hel, hsz⟩ := ga2.elems
      repeat' first
        | (with_reducible refine CondX.dec (fun c => ?_) (fun c => ?_)) <;> try (exfalso; omega)
        | (with_reducible refine CondX.beq (fun c => ?_) (fun c => ?_)) <;> try (exfalso; omega)
        | (with_reducible refine CondX.bne (fun c => ?_) (fun c => ?_)) <;> try (exfalso; omega)
        | (with_reducible refine CondX.bool (fun c => ?_) (fun c => ?_)) <;> try (exfalso; omega)
        | simp only [go_sem, I_eq, I_cells, fr2.at, fr1.at, fr0.at, fr.at, g4, g5, r6, r7, hlE, hel, Nat.reduceAdd, Nat.reduceBEq, Nat.reduceEqDiff, Nat.reduceLeDiff, Nat.reduceLT, Nat.reduceSub]
        | simp (disch := omega) only [wrap_in, toNat_succ, toNat_pred, Int.toNat_natCast]
        | with_reducible refine And.intro (by omega) ?_
        | with_reducible refine exI (by omega) ?_
        | fail
      refine (ga.keep gk2).app (gk.trans gk2) (by simp only [List.length_map]; omega) (by simp only [List.length_map]; omega) (by decide) fun H' v' a' kp' f1 f2 ev => ?_
      repeat' first
        | (with_reducible refine CondX.dec (fun c => ?_) (fun c => ?_)) <;> try (exfalso; omega)
        | (with_reducible refine CondX.beq (fun c => ?_) (fun c => ?_)) <;> try (exfalso; omega)
        | (with_reducible refine CondX.bne (fun c => ?_) (fun c => ?_)) <;> try (exfalso; omega)
        | (with_reducible refine CondX.bool (fun c => ?_) (fun c => ?_)) <;> try (exfalso; omega)
        | simp only [go_sem, I_eq, I_cells, fr2.at, fr1.at, fr0.at, fr.at, g22, g21, g4, g5, q3, r6, r7, hw, Nat.reduceAdd, Nat.reduceBEq, Nat.reduceEqDiff, Nat.reduceLeDiff, Nat.reduceLT, Nat.reduceSub]
        | simp (disch := omega) only [wrap_in, toNat_succ, toNat_pred, Int.toNat_natCast]
        | with_reducible refine And.intro (by omega) ?_
        | with_reducible refine exI (by omega) ?_
        | fail
      rw [if_neg (fun e => hbx e.1)] at hbn
      exact ⟨v', b, rfl, rfl, by rw [hfn, List.map_append]; exact a', kp', htn hx10, hj2, hbn⟩
  · rintro s d2 fr g22 g21 ⟨v, b, g3, g4, g5, ga, gk, hn, hjl, hb⟩
    rw [List.take_length] at g3 ga hn hjl hb
    have hpj := parse_join hn (by omega) (by omega) hb
    have hfl := flat_len ls
    repeat' first
      | (with_reducible refine CondX.dec (fun c => ?_) (fun c => ?_)) <;> try (exfalso; omega)
      | (with_reducible refine CondX.beq (fun c => ?_) (fun c => ?_)) <;> try (exfalso; omega)
      | (with_reducible refine CondX.bne (fun c => ?_) (fun c => ?_)) <;> try (exfalso; omega)
      | (with_reducible refine CondX.bool (fun c => ?_) (fun c => ?_)) <;> try (exfalso; omega)
      | simp only [go_sem, I_eq, I_cells, fr.at, g22, g21, d2, g3, g4, g5, Nat.reduceAdd, Nat.reduceBEq, Nat.reduceEqDiff, Nat.reduceLeDiff, Nat.reduceLT, Nat.reduceSub]
      | simp (disch := omega) only [wrap_in, toNat_succ, toNat_pred, Int.toNat_natCast]
      | with_reducible refine And.intro (by omega) ?_
      | with_reducible refine exI (by omega) ?_
      | fail
    refine CallX.of ((Parse_spec _ s.hp).mono ?_)
    rw [hpj]
    rintro r H ⟨v2, rfl, ga2, gk2⟩
    by_cases h0 : b = 0
    · rw [if_pos h0] at ga2 ⊢
      dsimp only at ga2
      repeat' first
        | (with_reducible refine CondX.dec (fun c => ?_) (fun c => ?_)) <;> try (exfalso; omega)
        | (with_reducible refine CondX.beq (fun c => ?_) (fun c => ?_)) <;> try (exfalso; omega)
        | (with_reducible refine CondX.bne (fun c => ?_) (fun c => ?_)) <;> try (exfalso; omega)
        | (with_reducible refine CondX.bool (fun c => ?_) (fun c => ?_)) <;> try (exfalso; omega)
        | simp only [go_sem, I_eq, I_cells, fr.at, g3, g4, g5, h0, Nat.reduceAdd, Nat.reduceBEq, Nat.reduceEqDiff, Nat.reduceLeDiff, Nat.reduceLT, Nat.reduceSub]
        | simp (disch := omega) only [wrap_in, toNat_succ, toNat_pred, Int.toNat_natCast]
        | with_reducible refine And.intro (by omega) ?_
        | with_reducible refine exI (by omega) ?_
        | fail
      refine same_oo ga2 (ga.keep gk2) (fun L h1 h2 => ?_) (by omega) (by omega) ?_
      · subst h1
        subst h2
        have e1 := ga.own'.1
        rw [ga2.own'.2] at e1; cases e1
      rw [decide_eq_true rfl]
      repeat' first
        | (with_reducible refine CondX.dec (fun c => ?_) (fun c => ?_)) <;> try (exfalso; omega)
        | (with_reducible refine CondX.beq (fun c => ?_) (fun c => ?_)) <;> try (exfalso; omega)
        | (with_reducible refine CondX.bne (fun c => ?_) (fun c => ?_)) <;> try (exfalso; omega)
        | (with_reducible refine CondX.bool (fun c => ?_) (fun c => ?_)) <;> try (exfalso; omega)
        | simp only [go_sem, I_eq, I_cells, Nat.reduceAdd, Nat.reduceBEq, Nat.reduceEqDiff, Nat.reduceLeDiff, Nat.reduceLT, Nat.reduceSub]
        | simp (disch := omega) only [wrap_in, toNat_succ, toNat_pred, Int.toNat_natCast]
        | with_reducible refine And.intro (by omega) ?_
        | with_reducible refine exI (by omega) ?_
        | fail
    · rw [if_neg h0] at ga2 ⊢
      dsimp only at ga2
      have hlE : ∀ K, lenK H v2 K = K (.int .i64 0) := fun K => by rw [ga2.lenE]; rfl
      repeat' first
        | (with_reducible refine CondX.dec (fun c => ?_) (fun c => ?_)) <;> try (exfalso; omega)
        | (with_reducible refine CondX.beq (fun c => ?_) (fun c => ?_)) <;> try (exfalso; omega)
        | (with_reducible refine CondX.bne (fun c => ?_) (fun c => ?_)) <;> try (exfalso; omega)
        | (with_reducible refine CondX.bool (fun c => ?_) (fun c => ?_)) <;> try (exfalso; omega)
        | simp only [go_sem, I_eq, I_cells, fr.at, g3, g4, g5, hlE, Nat.reduceAdd, Nat.reduceBEq, Nat.reduceEqDiff, Nat.reduceLeDiff, Nat.reduceLT, Nat.reduceSub]
        | simp (disch := omega) only [wrap_in, toNat_succ, toNat_pred, Int.toNat_natCast]
        | with_reducible refine And.intro (by omega) ?_
        | with_reducible refine exI (by omega) ?_
        | fail
      rfl
end Go.Proofs.YtocfaflghcgniaaDoor
