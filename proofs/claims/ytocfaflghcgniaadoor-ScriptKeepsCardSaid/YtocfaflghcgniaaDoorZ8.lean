/- Part of a proof: what functions of the given program compute, and plain laws of it. -/
import Derived.Test.YtocfaflghcgniaaDoorZ7
import Derived.Test.YtocfaflghcgniaaDoorT3
import Derived.Test.YtocfaflghcgniaaDoorT4
/- script's small functions. -/
namespace Go.Proofs.YtocfaflghcgniaaDoor
open Go Go.T Go.Proofs Go.Sc Go.RowKit
set_option linter.unusedSimpArgs false
set_option linter.unusedVariables false
set_option maxRecDepth 10000
theorem I_lf (n : Int) : (I n).lf = true := by simp [I, AV.lf]
theorem I_lfs (l : List Int) : AV.lfs (l.map I) = true := lfs_map I I_lf l
theorem S_lfs (l : List Bs) : AV.lfs (l.map strV) = true := lfs_map strV (fun _ => strV_lf) l
theorem fields_spec (k : Int) : PureF Tryd.prog 20 [.int .i64 k] (.l true 1 ((fieldsL k).map I)) := by
  refine PureF.of_awp mixed (fun _ => []) (fn := Tryd.f20) (by kernel_rfl) rfl (by kernel_rfl) (by show 1 ≤ _; decide) (by simp [AV.lf, I_lfs]) (fun h => ?_)
  repeat' first
    | (with_reducible refine CondX.dec (fun c => ?_) (fun c => ?_)) <;> try (exfalso; omega)
    | (with_reducible refine CondX.beq (fun c => ?_) (fun c => ?_)) <;> try (exfalso; omega)
    | (with_reducible refine CondX.bne (fun c => ?_) (fun c => ?_)) <;> try (exfalso; omega)
    | (with_reducible refine CondX.bool (fun c => ?_) (fun c => ?_)) <;> try (exfalso; omega)
    | simp only [go_sem, I_eq, I_cells, Nat.reduceAdd, Nat.reduceBEq, Nat.reduceEqDiff, Nat.reduceLeDiff, Nat.reduceLT, Nat.reduceSub]
    | simp (disch := omega) only [wrap_in, toNat_succ, toNat_pred, Int.toNat_natCast]
    | with_reducible refine And.intro (by omega) ?_
    | with_reducible refine exI (by omega) ?_
    | fail
  all_goals exact ⟨by simp_all [fieldsL, I], Keeps.refl _⟩
theorem words_spec : PureF Tryd.prog 19 [] (.l true 1 (names.map strV)) := by
  refine PureF.of_awp mixed (fun _ => []) (fn := Tryd.f19) (by kernel_rfl) rfl (by kernel_rfl) (by show 0 ≤ _; decide) (by simp [AV.lf, S_lfs]) (fun h => ?_)
  repeat' first
    | (with_reducible refine CondX.dec (fun c => ?_) (fun c => ?_)) <;> try (exfalso; omega)
    | (with_reducible refine CondX.beq (fun c => ?_) (fun c => ?_)) <;> try (exfalso; omega)
    | (with_reducible refine CondX.bne (fun c => ?_) (fun c => ?_)) <;> try (exfalso; omega)
    | (with_reducible refine CondX.bool (fun c => ?_) (fun c => ?_)) <;> try (exfalso; omega)
    | simp only [go_sem, I_eq, I_cells, Nat.reduceAdd, Nat.reduceBEq, Nat.reduceEqDiff, Nat.reduceLeDiff, Nat.reduceLT, Nat.reduceSub]
    | simp (disch := omega) only [wrap_in, toNat_succ, toNat_pred, Int.toNat_natCast]
    | with_reducible refine And.intro (by omega) ?_
    | with_reducible refine exI (by omega) ?_
    | fail
  exact ⟨rfl, Keeps.refl _⟩
theorem at_spec (L : Lab) (f : Int) (h : Hp) : CallK Tryd.prog 21 [.pt L 0 0 0, .int .i64 f] h (fun r h' => r = .pt L 0 0 (fidx f) ∧ h' = h) := by
  refine CallK.of_awpH mixed (fun _ => []) (fn := Tryd.f21) (by kernel_rfl) rfl (by kernel_rfl) (by show 2 ≤ _; decide) ?_
  repeat' first
    | (with_reducible refine CondX.dec (fun c => ?_) (fun c => ?_)) <;> try (exfalso; omega)
    | (with_reducible refine CondX.beq (fun c => ?_) (fun c => ?_)) <;> try (exfalso; omega)
    | (with_reducible refine CondX.bne (fun c => ?_) (fun c => ?_)) <;> try (exfalso; omega)
    | (with_reducible refine CondX.bool (fun c => ?_) (fun c => ?_)) <;> try (exfalso; omega)
    | simp only [go_sem, I_eq, I_cells, Nat.reduceAdd, Nat.reduceBEq, Nat.reduceEqDiff, Nat.reduceLeDiff, Nat.reduceLT, Nat.reduceSub]
    | simp (disch := omega) only [wrap_in, toNat_succ, toNat_pred, Int.toNat_natCast]
    | with_reducible refine And.intro (by omega) ?_
    | with_reducible refine exI (by omega) ?_
    | fail
  all_goals simp_all [fidx]
theorem fidx_some {ws : List Bs} {w : Bs} {i : Nat} (hi : i < ws.length) (hn : ∀ x ∈ ws.take i, x ≠ w) (he : ws[i] = w) : ws.findIdx? (· == w) = some i := by
  rw [List.findIdx?_eq_some_iff_getElem]
  refine ⟨hi, by simp [he], fun j hj => ?_⟩
  have := hn ws[j] (List.mem_take_iff_getElem.2 ⟨j, by omega, rfl⟩)
  simpa using this
theorem fidx_none {ws : List Bs} {w : Bs} (hn : ∀ x ∈ ws, x ≠ w) : ws.findIdx? (· == w) = none := by
  rw [List.findIdx?_eq_none_iff]
  exact fun x hx => by simpa using hn x hx
def idxV (ws : List Bs) (w : Bs) : Int := match ws.findIdx? (· == w) with | some i => (i : Int) | none => -1
/-- slices.Index at strings. -/
theorem SIndex_spec (ws : List Bs) (w : Bs) (ex : Bool) (hl : ws.length < 2 ^ 61) : PureF Tryd.prog 29 [.l ex 1 (ws.map strV), strV w] (.int .i64 (idxV ws w)) := by
  refine PureF.of_awp mixed (fun _ => []) (fn := Tryd.f29) (by kernel_rfl) rfl (by kernel_rfl) (by show 2 ≤ _; decide) (by simp [AV.lf]) (fun h => ?_)
  repeat' first
    | (with_reducible refine CondX.dec (fun c => ?_) (fun c => ?_)) <;> try (exfalso; omega)
    | (with_reducible refine CondX.beq (fun c => ?_) (fun c => ?_)) <;> try (exfalso; omega)
    | (with_reducible refine CondX.bne (fun c => ?_) (fun c => ?_)) <;> try (exfalso; omega)
    | (with_reducible refine CondX.bool (fun c => ?_) (fun c => ?_)) <;> try (exfalso; omega)
    | simp only [go_sem, I_eq, I_cells, Nat.reduceAdd, Nat.reduceBEq, Nat.reduceEqDiff, Nat.reduceLeDiff, Nat.reduceLT, Nat.reduceSub]
    | simp (disch := omega) only [wrap_in, toNat_succ, toNat_pred, Int.toNat_natCast]
    | with_reducible refine And.intro (by omega) ?_
    | with_reducible refine exI (by omega) ?_
    | fail
  refine awp_countF [(4, 5), (8, 18)] (by kernel_rfl) 8 7 (by kernel_rfl) ws.length (by omega) (fun i s => (∀ x ∈ ws.take i, x ≠ w) ∧ s.hp = h) ?_ ?_ ?_ ?_ ?_
  · simp only [go_sem, I_eq, I_cells, Nat.reduceAdd, Nat.reduceBEq, Nat.reduceEqDiff, Nat.reduceLeDiff, Nat.reduceLT, Nat.reduceSub]
  · simp only [go_sem, I_eq, I_cells, Nat.reduceAdd, Nat.reduceBEq, Nat.reduceEqDiff, Nat.reduceLeDiff, Nat.reduceLT, Nat.reduceSub]
  · simp only [go_sem, I_eq, I_cells, Nat.reduceAdd, Nat.reduceBEq, Nat.reduceEqDiff, Nat.reduceLeDiff, Nat.reduceLT, Nat.reduceSub]
    exact fun x hx => by simp at hx
  · rintro i s hlt d2 hw fr g8 g7 ⟨hn, hH⟩
    repeat' first
      | (with_reducible refine CondX.dec (fun c => ?_) (fun c => ?_)) <;> try (exfalso; omega)
      | (with_reducible refine CondX.beq (fun c => ?_) (fun c => ?_)) <;> try (exfalso; omega)
      | (with_reducible refine CondX.bne (fun c => ?_) (fun c => ?_)) <;> try (exfalso; omega)
      | (with_reducible refine CondX.bool (fun c => ?_) (fun c => ?_)) <;> try (exfalso; omega)
      | simp only [go_sem, I_eq, I_cells, d2, hw, fr.at, g8, g7, hH, Nat.reduceAdd, Nat.reduceBEq, Nat.reduceEqDiff, Nat.reduceLeDiff, Nat.reduceLT, Nat.reduceSub]
      | simp (disch := omega) only [wrap_in, toNat_succ, toNat_pred, Int.toNat_natCast]
      | with_reducible refine And.intro (by omega) ?_
      | with_reducible refine exI (by omega) ?_
      | fail
    · rw [show idxV ws w = i by unfold idxV; rw [fidx_some hlt hn c.symm]]
      exact ⟨rfl, Keeps.refl _⟩
    · intro x hx
      rw [List.take_succ_eq_append_getElem hlt] at hx
      rcases List.mem_append.1 hx with hx | hx
      · exact hn x hx
      · rw [List.mem_singleton.1 hx]; exact fun e => c e.symm
  · rintro s d2 fr g8 g7 ⟨hn, hH⟩
    repeat' first
      | (with_reducible refine CondX.dec (fun c => ?_) (fun c => ?_)) <;> try (exfalso; omega)
      | (with_reducible refine CondX.beq (fun c => ?_) (fun c => ?_)) <;> try (exfalso; omega)
      | (with_reducible refine CondX.bne (fun c => ?_) (fun c => ?_)) <;> try (exfalso; omega)
      | (with_reducible refine CondX.bool (fun c => ?_) (fun c => ?_)) <;> try (exfalso; omega)
      | simp only [go_sem, I_eq, I_cells, d2, fr.at, g8, g7, hH, Nat.reduceAdd, Nat.reduceBEq, Nat.reduceEqDiff, Nat.reduceLeDiff, Nat.reduceLT, Nat.reduceSub]
      | simp (disch := omega) only [wrap_in, toNat_succ, toNat_pred, Int.toNat_natCast]
      | with_reducible refine And.intro (by omega) ?_
      | with_reducible refine exI (by omega) ?_
      | fail
    rw [List.take_length] at hn
    rw [show idxV ws w = -1 by unfold idxV; rw [fidx_none hn]]
    exact ⟨rfl, Keeps.refl _⟩
theorem kindOf_eq (w : Bs) : idxV names w + 1 = (kindOf w : Int) := by
  unfold kindOf idxV
  cases names.findIdx? (· == w) <;> simp
theorem number_spec (w : Bs) (hl : w.length ≤ 65536) : PureF Tryd.prog 30 [strV w] (.tup [.int .i64 ((num w).getD 0), .bool (num w).isSome]) := by
  refine PureF.of_awp mixed (fun _ => []) (fn := Tryd.f30) (by kernel_rfl) rfl (by kernel_rfl) (by show 1 ≤ _; decide) (by simp [AV.lf, AV.lfs]) (fun h => ?_)
  have t1 := TrimPrefix_at w [45]
  rw [digs_eq] at t1
  have hdl : (digs w).length ≤ w.length := by unfold digs; split <;> simp
  have t2 := Trim_at (digs w) decS (by omega) (by decide) (by decide)
  repeat' first
    | (with_reducible refine CondX.dec (fun c => ?_) (fun c => ?_)) <;> try (exfalso; omega)
    | (with_reducible refine CondX.beq (fun c => ?_) (fun c => ?_)) <;> try (exfalso; omega)
    | (with_reducible refine CondX.bne (fun c => ?_) (fun c => ?_)) <;> try (exfalso; omega)
    | (with_reducible refine CondX.bool (fun c => ?_) (fun c => ?_)) <;> try (exfalso; omega)
    | ((with_reducible refine CallX.id ?_); first | refine CallX.pure (t1) ?_ | refine CallX.pure (t2) ?_)
    | simp only [go_sem, I_eq, I_cells, Nat.reduceAdd, Nat.reduceBEq, Nat.reduceEqDiff, Nat.reduceLeDiff, Nat.reduceLT, Nat.reduceSub]
    | simp (disch := omega) only [wrap_in, toNat_succ, toNat_pred, Int.toNat_natCast]
    | with_reducible refine And.intro (by omega) ?_
    | with_reducible refine exI (by omega) ?_
    | fail
  · rw [num_none (fun e => e.1 c)]
    exact ⟨rfl, Keeps.refl _⟩
  · rw [num_none (fun e => by have := e.2.1; omega)]
    exact ⟨rfl, Keeps.refl _⟩
  · rename_i c1 c2
    have h3 := (trim_digits _).1 c
    clear c
    refine ⟨List.length_pos_iff.2 c1, ?_⟩
    have hh := head_getD c1
    have at1 : isNum w = true → PureF Tryd.prog 40 [strV w] (.tup [.int .i64 (numV w), .undef]) := fun e => Atoi_at w _ (by omega) (atoi_num e)
    repeat' first
      | (with_reducible refine CondX.dec (fun c => ?_) (fun c => ?_)) <;> try (exfalso; omega)
      | (with_reducible refine CondX.beq (fun c => ?_) (fun c => ?_)) <;> try (exfalso; omega)
      | (with_reducible refine CondX.bne (fun c => ?_) (fun c => ?_)) <;> try (exfalso; omega)
      | (with_reducible refine CondX.bool (fun c => ?_) (fun c => ?_)) <;> try (exfalso; omega)
      | simp only [go_sem, I_eq, I_cells, Nat.reduceAdd, Nat.reduceBEq, Nat.reduceEqDiff, Nat.reduceLeDiff, Nat.reduceLT, Nat.reduceSub]
      | simp (disch := omega) only [wrap_in, toNat_succ, toNat_pred, Int.toNat_natCast]
      | with_reducible refine And.intro (by omega) ?_
      | with_reducible refine exI (by omega) ?_
      | fail
    · have hn := num_some c1 (by omega) h3 (fun _ => c)
      rw [num_val hn]
      refine CallX.pure (at1 hn) ?_
      repeat' first
        | (with_reducible refine CondX.dec (fun c => ?_) (fun c => ?_)) <;> try (exfalso; omega)
        | (with_reducible refine CondX.beq (fun c => ?_) (fun c => ?_)) <;> try (exfalso; omega)
        | (with_reducible refine CondX.bne (fun c => ?_) (fun c => ?_)) <;> try (exfalso; omega)
        | (with_reducible refine CondX.bool (fun c => ?_) (fun c => ?_)) <;> try (exfalso; omega)
        | simp only [go_sem, I_eq, I_cells, Nat.reduceAdd, Nat.reduceBEq, Nat.reduceEqDiff, Nat.reduceLeDiff, Nat.reduceLT, Nat.reduceSub]
        | simp (disch := omega) only [wrap_in, toNat_succ, toNat_pred, Int.toNat_natCast]
        | with_reducible refine And.intro (by omega) ?_
        | with_reducible refine exI (by omega) ?_
        | fail
      exact ⟨rfl, Keeps.refl _⟩
    · rename_i c3
      have h48 : (digs w).getD 0 0 = 48 := UInt8.toNat_inj.1 (by have : (48 : UInt8).toNat = 48 := rfl; omega)
      rw [num_none (fun e => c (e.2.2.2 (by rw [hh, h48])))]
      exact ⟨rfl, Keeps.refl _⟩
    · have hn := num_some c1 (by omega) h3 (fun e => by
        rw [hh] at e
        injection e with e
        rw [e] at c
        exact absurd rfl c)
      rw [num_val hn]
      refine CallX.pure (at1 hn) ?_
      repeat' first
        | (with_reducible refine CondX.dec (fun c => ?_) (fun c => ?_)) <;> try (exfalso; omega)
        | (with_reducible refine CondX.beq (fun c => ?_) (fun c => ?_)) <;> try (exfalso; omega)
        | (with_reducible refine CondX.bne (fun c => ?_) (fun c => ?_)) <;> try (exfalso; omega)
        | (with_reducible refine CondX.bool (fun c => ?_) (fun c => ?_)) <;> try (exfalso; omega)
        | simp only [go_sem, I_eq, I_cells, Nat.reduceAdd, Nat.reduceBEq, Nat.reduceEqDiff, Nat.reduceLeDiff, Nat.reduceLT, Nat.reduceSub]
        | simp (disch := omega) only [wrap_in, toNat_succ, toNat_pred, Int.toNat_natCast]
        | with_reducible refine And.intro (by omega) ?_
        | with_reducible refine exI (by omega) ?_
        | fail
      exact ⟨rfl, Keeps.refl _⟩
  · rw [num_none (fun e => c ((trim_digits _).2 e.2.2.1))]
    exact ⟨rfl, Keeps.refl _⟩
end Go.Proofs.YtocfaflghcgniaaDoor
/- script.line. -/
namespace Go.Proofs.YtocfaflghcgniaaDoor
open Go Go.T Go.Proofs Go.Sc Go.RowKit
set_option linter.unusedSimpArgs false
set_option linter.unusedVariables false
set_option maxRecDepth 10000
set_option maxHeartbeats 1000000
/-- A step's cells. -/
def stpC (s : Stp) : List AV := [.int .i64 s.kind, .int .i64 s.node, .int .i64 s.obj, .int .i64 s.i, .int .i64 s.j]
def encP (s : Stp) : AV := .agg (stpC s)
def zeroP : Stp := ⟨0, 0, 0, 0, 0⟩
theorem stpC_len (s : Stp) : (stpC s).length = 5 := rfl
theorem stpC_set (s : Stp) (f x : Int) : (stpC s).set (fidx f) (.int .i64 x) = stpC (setF s f x) := by
  unfold stpC setF fidx
  by_cases h0 : f = 0
  · simp [h0]
  by_cases h1 : f = 1
  · simp [h0, h1]
  by_cases h2 : f = 2 <;> simp [h0, h1, h2]
theorem stpC_take (s : Stp) : (stpC s).take 5 = stpC s := rfl
theorem stpC_over (s t : Stp) : setRange (stpC s) 0 (stpC t) = stpC t := by simp [stpC, setRange]
theorem stpC_z5 (s : Stp) : ((((((stpC s).set 0 (.int .i64 0)).set 1 (.int .i64 0)).set 2 (.int .i64 0)).set 3 (.int .i64 0)).set 4 (.int .i64 0)) = stpC zeroP := by simp [stpC, zeroP]
theorem stpC_zover (s : Stp) : setRange [.int .i64 0, .int .i64 0, .int .i64 0, .int .i64 0, .int .i64 0] 0 (stpC s) = stpC s := stpC_over zeroP s
theorem encP_eq (s : Stp) : encP s = .agg (stpC s) := rfl
theorem encP_cells (s : Stp) : (encP s).cells = stpC s := by simp [encP, AV.cells]
theorem stpC_all (s : Stp) : (stpC s).all AV.isCell = true := by simp [stpC, AV.isCell]
theorem encP_lf (s : Stp) : (encP s).lf = true := by simp [encP, stpC, AV.lf, AV.lfs]
theorem P_lfs (l : List Stp) : AV.lfs (l.map encP) = true := lfs_map encP encP_lf l
def T16 : Nat → List Tg := fun id => if id = 1 then [.pure, .plain, .plain, .plain, .pure] else []
theorem lineR_eq {ws : List Bs} (h : 0 < ws.length) : lineR ws = if kindOf ws[0] = 0 then none else if ws.length ≠ 1 + arity (kindOf ws[0]) then none else (nums ws.tail).map (made (kindOf ws[0])) := by
  cases ws with
  | nil => simp at h
  | cons w r =>
    simp only [lineR, List.getElem_cons_zero, List.tail_cons, List.length_cons]
    by_cases h0 : kindOf w = 0
    · simp [h0]
    · simp only [h0, if_false]
      by_cases h1 : r.length = arity (kindOf w)
      · rw [if_neg (by omega), if_neg (by omega)]
      · rw [if_pos (by omega), if_pos (by omega)]
theorem line_spec (ws : List Bs) (ex : Bool) (h0 : 0 < ws.length) (hl : ws.length < 2 ^ 60) (hw : ∀ x ∈ ws, x.length ≤ 65536) :
    PureF Tryd.prog 16 [.l ex 1 (ws.map strV)] (.tup [encP ((lineR ws).getD zeroP), .bool (lineR ws).isSome]) := by
  refine PureF.of_awp mixed T16 (fn := Tryd.f16) (by kernel_rfl) rfl (by kernel_rfl) (by show 1 ≤ _; decide) (by simp [AV.lf, AV.lfs, encP_lf]) (fun h => ?_)
  have ix := SIndex_spec names ws[0] true (by decide)
  have hk := kindOf_eq ws[0]
  obtain ⟨v, hv⟩ : ∃ v : Int, idxV names ws[0] = v := ⟨_, rfl⟩
  rw [hv] at ix hk
  have hkl := kindOf_le ws[0]
  obtain ⟨k, hke⟩ : ∃ k, kindOf ws[0] = k := ⟨_, rfl⟩
  rw [hke] at hk hkl
  have hlr := lineR_eq h0
  rw [hke] at hlr
  have w1 : IntKind.i64.wrap (v + 1) = (k : Int) := by rw [hk, IntWalk.i64_in _ (by omega)]
  have w2 : IntKind.i64.wrap (1 + ((fieldsL k).length : Int)) = ((1 + (fieldsL k).length : Nat) : Int) := by have := fieldsL_le k; rw [IntWalk.i64_in _ (by omega)]; simp
  repeat' first
    | (with_reducible refine CondX.dec (fun c => ?_) (fun c => ?_)) <;> try (exfalso; omega)
    | (with_reducible refine CondX.beq (fun c => ?_) (fun c => ?_)) <;> try (exfalso; omega)
    | (with_reducible refine CondX.bne (fun c => ?_) (fun c => ?_)) <;> try (exfalso; omega)
    | (with_reducible refine CondX.bool (fun c => ?_) (fun c => ?_)) <;> try (exfalso; omega)
    | ((with_reducible refine CallX.id ?_); first | refine CallX.pure (words_spec) ?_ | refine CallX.pure (ix) ?_ | refine CallX.pure (fields_spec k) ?_)
    | ((with_reducible refine PureX.id ?_); first | refine PureX.of (words_spec) ?_ | refine PureX.of (ix) ?_ | refine PureX.of (fields_spec k) ?_)
    | simp only [go_sem, I_eq, I_cells, T16, w1, w2, List.getElem_map, cells_strV, Nat.reduceAdd, Nat.reduceBEq, Nat.reduceEqDiff, Nat.reduceLeDiff, Nat.reduceLT, Nat.reduceSub]
    | simp (disch := omega) only [wrap_in, toNat_succ, toNat_pred, Int.toNat_natCast]
    | with_reducible refine And.intro (by omega) ?_
    | with_reducible refine exI (by omega) ?_
    | fail
  · rw [hlr, if_pos (by omega)]
    exact ⟨rfl, by ((repeat first | with_reducible apply Keeps.alloc | (with_reducible refine Keeps.set ?_ ?hL _; case hL => first | assumption | exact Hp.ok _ _ (by simp) | exact Keeps.new (by assumption) _ _)); first | assumption | exact Keeps.refl _)⟩
  · have hk0 : k ≠ 0 := by rename_i c1; omega
    rw [hlr, if_neg hk0, if_pos (by rw [← fieldsL_len hk0 hkl]; omega)]
    exact ⟨rfl, by ((repeat first | with_reducible apply Keeps.alloc | (with_reducible refine Keeps.set ?_ ?hL _; case hL => first | assumption | exact Hp.ok _ _ (by simp) | exact Keeps.new (by assumption) _ _)); first | assumption | exact Keeps.refl _)⟩
  · have hk0 : k ≠ 0 := by rename_i c1; omega
    have hfl := fieldsL_len hk0 hkl
    have hwl : ws.length = 1 + arity k := by omega
    rw [if_neg hk0, if_neg (by omega)] at hlr
    obtain ⟨fs, hfs⟩ : ∃ fs, fieldsL (k : Int) = fs := ⟨_, rfl⟩
    have hf3 := fieldsL_le k
    rw [hfs] at hfl hf3 w2 ⊢
    have htl : ws.tail.length = fs.length := by rw [List.length_tail]; omega
    refine awp_countF [(3, 3), (6, 9), (33, 54)] (by kernel_rfl) 33 32 (by kernel_rfl) fs.length (by omega) (fun i s => ∃ xs, nums (ws.tail.take i) = some xs ∧ s.hp.con ⟨16, 5, h.cnt 16 5⟩ = .blk (stpC (applyL fs xs ⟨k, 0, 0, 0, 0⟩)) ∧ s.hp.con ⟨16, 2, h.cnt 16 2⟩ = .blk (stpC zeroP) ∧ Keeps h s.hp) ?_ ?_ ?_ ?_ ?_
    · simp only [go_sem, I_eq, I_cells, Nat.reduceAdd, Nat.reduceBEq, Nat.reduceEqDiff, Nat.reduceLeDiff, Nat.reduceLT, Nat.reduceSub]
    · simp only [go_sem, I_eq, I_cells, Nat.reduceAdd, Nat.reduceBEq, Nat.reduceEqDiff, Nat.reduceLeDiff, Nat.reduceLT, Nat.reduceSub]
    · simp only [go_sem, I_eq, I_cells, Nat.reduceAdd, Nat.reduceBEq, Nat.reduceEqDiff, Nat.reduceLeDiff, Nat.reduceLT, Nat.reduceSub]
      exact ⟨[], by simp [nums], by rw [applyL_nil]; rfl, rfl, by ((repeat first | with_reducible apply Keeps.alloc | (with_reducible refine Keeps.set ?_ ?hL _; case hL => first | assumption | exact Hp.ok _ _ (by simp) | exact Keeps.new (by assumption) _ _)); first | assumption | exact Keeps.refl _)⟩
    · rintro i s hlt d2 hw2 fr g33 g32 ⟨xs, hx, k5, k2, gK⟩
      have hi1 : 1 + i < ws.length := by omega
      have w3 : IntKind.i64.wrap (1 + (i : Int)) = ((1 + i : Nat) : Int) := by rw [IntWalk.i64_in _ (by omega)]; simp
      have hxl := nums_len _ _ hx
      rw [List.length_take] at hxl
      have e1 : ws.tail[i]'(by omega) = ws[1 + i] := by rw [List.getElem_tail]; congr 1; omega
      have hnx := nums_next (a := ws.tail) (by omega) hx
      rw [e1] at hnx
      have hstop : num ws[1 + i] = none → nums ws.tail = none := fun e => nums_stop (i := i) (by omega) (by rw [e1]; exact e)
      repeat' first
        | (with_reducible refine CondX.dec (fun c => ?_) (fun c => ?_)) <;> try (exfalso; omega)
        | (with_reducible refine CondX.beq (fun c => ?_) (fun c => ?_)) <;> try (exfalso; omega)
        | (with_reducible refine CondX.bne (fun c => ?_) (fun c => ?_)) <;> try (exfalso; omega)
        | (with_reducible refine CondX.bool (fun c => ?_) (fun c => ?_)) <;> try (exfalso; omega)
        | ((with_reducible refine CallX.id ?_); first | refine CallX.pure (number_spec _ (hw _ (List.getElem_mem hi1))) ?_ | refine CallX.at (at_spec _ _ _) ?_)
        | simp only [go_sem, I_eq, I_cells, T16, fr.at, g33, g32, d2, hw2, w3, k5, k2, List.getElem_map, cells_strV, stpC_len, Nat.reduceAdd, Nat.reduceBEq, Nat.reduceEqDiff, Nat.reduceLeDiff, Nat.reduceLT, Nat.reduceSub]
        | simp (disch := omega) only [wrap_in, toNat_succ, toNat_pred, Int.toNat_natCast]
        | with_reducible refine And.intro (by omega) ?_
        | with_reducible refine exI (by omega) ?_
        | fail
      · obtain ⟨x, hx1⟩ := Option.isSome_iff_exists.1 c
        rw [hx1] at hnx ⊢
        have hil : xs.length = i := by omega
        refine ⟨by have := fidx_le fs[i]; omega, xs ++ [x], by rw [hnx]; rfl, ?_, ?_⟩
        · rw [stpC_set, applyL_next fs xs _ (by omega)]
          subst hil
          rfl
        · exact gK.set (h.ok _ (by simp)) _
      · have hn : num ws[1 + i] = none := by simpa using c
        rw [hlr, hstop hn]
        simp only [stpC_z5, stpC_take, stpC_len]
        exact ⟨⟨by omega, rfl⟩, gK.set (h.ok _ (by simp)) _⟩
    · rintro s d2 fr g33 g32 ⟨xs, hx, k5, k2, gK⟩
      repeat' first
        | (with_reducible refine CondX.dec (fun c => ?_) (fun c => ?_)) <;> try (exfalso; omega)
        | (with_reducible refine CondX.beq (fun c => ?_) (fun c => ?_)) <;> try (exfalso; omega)
        | (with_reducible refine CondX.bne (fun c => ?_) (fun c => ?_)) <;> try (exfalso; omega)
        | (with_reducible refine CondX.bool (fun c => ?_) (fun c => ?_)) <;> try (exfalso; omega)
        | simp only [go_sem, I_eq, I_cells, T16, fr.at, g33, g32, d2, k5, k2, stpC_len, Nat.reduceAdd, Nat.reduceBEq, Nat.reduceEqDiff, Nat.reduceLeDiff, Nat.reduceLT, Nat.reduceSub]
        | simp (disch := omega) only [wrap_in, toNat_succ, toNat_pred, Int.toNat_natCast]
        | with_reducible refine And.intro (by omega) ?_
        | with_reducible refine exI (by omega) ?_
        | fail
      have hxl := nums_len _ _ hx
      rw [List.take_of_length_le (by omega)] at hx hxl
      have hr : lineR ws = some (made k xs) := by rw [hlr, hx]; rfl
      have ha : applyL fs xs ⟨k, 0, 0, 0, 0⟩ = made k xs := by
        rw [← hfs]; exact applyL_made hk0 hkl xs (by omega)
      rw [ha, hr]
      repeat' first
        | (with_reducible refine CondX.dec (fun c => ?_) (fun c => ?_)) <;> try (exfalso; omega)
        | (with_reducible refine CondX.beq (fun c => ?_) (fun c => ?_)) <;> try (exfalso; omega)
        | (with_reducible refine CondX.bne (fun c => ?_) (fun c => ?_)) <;> try (exfalso; omega)
        | (with_reducible refine CondX.bool (fun c => ?_) (fun c => ?_)) <;> try (exfalso; omega)
        | simp only [go_sem, I_eq, I_cells, stpC_take, stpC_len, stpC_all, stpC_over, Nat.reduceAdd, Nat.reduceBEq, Nat.reduceEqDiff, Nat.reduceLeDiff, Nat.reduceLT, Nat.reduceSub]
        | simp (disch := omega) only [wrap_in, toNat_succ, toNat_pred, Int.toNat_natCast]
        | with_reducible refine And.intro (by omega) ?_
        | with_reducible refine exI (by omega) ?_
        | fail
      exact ⟨rfl, gK.set (h.ok _ (by simp)) _⟩
end Go.Proofs.YtocfaflghcgniaaDoor
/- The document's functions of layer 21: words, numbers, names. -/
namespace Go.Sc
def nameI (k : Int) : Bs := nameOf k.toNat
end Go.Sc
namespace Go.Proofs.YtocfaflghcgniaaDoor
open Go Go.T Go.Proofs Go.Sc Go.RowKit
set_option linter.unusedSimpArgs false
set_option linter.unusedVariables false
set_option maxRecDepth 10000
set_option maxHeartbeats 2000000
end Go.Proofs.YtocfaflghcgniaaDoor
/- The document's made and told. -/
namespace Go.Sc
def getF (s : Stp) (f : Int) : Int := if f = 0 then s.node else if f = 1 then s.obj else if f = 2 then s.i else s.j
/-- The numbers that a step's line tells. -/
def toldL (s : Stp) : List Int := (fieldsL s.kind).map (getF s)
end Go.Sc
namespace Go.Proofs.YtocfaflghcgniaaDoor
open Go Go.T Go.Proofs Go.Sc Go.RowKit
set_option linter.unusedSimpArgs false
set_option linter.unusedVariables false
set_option maxRecDepth 10000
set_option maxHeartbeats 4000000
end Go.Proofs.YtocfaflghcgniaaDoor
/- script.Parse. -/
namespace Go.Sc
theorem cut_len (c : UInt8) : ∀ l : Bs, (cut c l).length ≤ l.length + 1 := by
  intro l
  induction l with
  | nil => simp [cut]
  | cons x r ih =>
    unfold cut
    by_cases hx : x = c
    · simp [hx]; omega
    · rw [if_neg hx]
      obtain ⟨p, q, h⟩ := cut_cons c r
      rw [h] at ih ⊢
      simp at ih ⊢; omega
theorem cut_piece (c : UInt8) : ∀ (l : Bs), ∀ p ∈ cut c l, p.length ≤ l.length := by
  intro l
  induction l with
  | nil => intro p hp; simp [cut] at hp; subst hp; simp
  | cons x r ih =>
    intro p hp
    unfold cut at hp
    by_cases hx : x = c
    · rw [if_pos hx] at hp
      rcases List.mem_cons.1 hp with rfl | hp
      · simp
      · have := ih p hp; simp; omega
    · rw [if_neg hx] at hp
      obtain ⟨y, q, h⟩ := cut_cons c r
      rw [h] at hp ih
      rcases List.mem_cons.1 hp with rfl | hp
      · have := ih y (by simp); simp; omega
      · have := ih p (by simp [hp]); simp; omega
theorem parseL_cons (mx : Nat) (l : Bs) (r : List Bs) (n : Nat) (out : List Stp) : parseL mx (l :: r) n out = if words l = [] then parseL mx r (n + 1) out else match lineR (words l) with
    | none => ([], n, 50)
    | some s => if out.length = mx then ([], n, 3) else parseL mx r (n + 1) (out ++ [s]) := by
  conv => lhs; unfold parseL
  rfl
theorem words_piece {l w : Bs} (h : w ∈ words l) : w.length ≤ l.length := by
  unfold words at h
  exact cut_piece 32 l w (List.mem_filter.1 h).1
theorem words_len (l : Bs) : (words l).length ≤ l.length + 1 := Nat.le_trans (List.length_filter_le _ _) (cut_len 32 l)
end Go.Sc
namespace Go.Proofs.YtocfaflghcgniaaDoor
open Go Go.T Go.Proofs Go.Sc Go.RowKit
set_option linter.unusedSimpArgs false
set_option linter.unusedVariables false
set_option maxRecDepth 10000
set_option maxHeartbeats 4000000
/-- What Parse answers: a list of its own. -/
def ParseR (h : Hp) (p : List Stp × Nat × Int) (r : AV) (H : Hp) : Prop := ∃ v, r = .tup [v, .int .i64 p.2.1, .int .i64 p.2.2] ∧ Acc h H 5 v (p.1.map encP) ∧ Keeps h H
def T10 : Nat → List Tg := fun id => if id = 16 then [.avoid [2, 3, 4], .mine, .mine, .mine] else if id = 18 then [.avoid [2, 3, 4], .mine, .mine, .mine] else []

theorem Parse_spec (t : Bs) (h : Hp) : CallK Tryd.prog 10 [strV t] h (ParseR h (parse 65536 4096 t)) := by
  refine CallK.of_awpH mixed T10 (fn := Tryd.f10) (by kernel_rfl) rfl (by kernel_rfl) (by show 1 ≤ _; decide) ?_
  rw [awp_seq_scope, awp_assoc, awp_assoc, awp_assoc, awp_assoc, awp_mid]
  refine awp_cut (fun s => t.length ≤ 65536 ∧ s.slots 2 = .pt ⟨10, 2, h.cnt 10 2⟩ 0 0 0 ∧ s.slots 3 = .pt ⟨10, 3, h.cnt 10 3⟩ 0 0 0 ∧ s.slots 4 = .pt ⟨10, 4, h.cnt 10 4⟩ 0 0 0 ∧ s.slots 5 = .pt ⟨10, 5, h.cnt 10 5⟩ 0 0 0 ∧ s.slots 6 = .pt ⟨10, 6, h.cnt 10 6⟩ 0 0 0 ∧
    s.hp.con ⟨10, 2, h.cnt 10 2⟩ = .blk [.l true 0 []] ∧ s.hp.con ⟨10, 3, h.cnt 10 3⟩ = .blk [.int .i64 0] ∧ s.hp.con ⟨10, 4, h.cnt 10 4⟩ = .blk [.int .i64 0] ∧ s.hp.con ⟨10, 5, h.cnt 10 5⟩ = .blk [.l true 0 []] ∧ s.hp.con ⟨10, 6, h.cnt 10 6⟩ = .blk [.int .i64 0] ∧ Keeps h s.hp ∧
    ∃ a b c, s.slots 16 = AV.fn (.func 35) [.pt ⟨28, 4, b⟩ 0 0 0, .pt ⟨28, 3, a⟩ 0 0 0, .pt ⟨28, 5, c⟩ 0 0 0] ∧ h.con ⟨28, 3, a⟩ = .none ∧ s.hp.con ⟨28, 3, a⟩ = .blk [strV t] ∧ s.hp.con ⟨28, 4, b⟩ = .blk [strV [10]] ∧ s.hp.con ⟨28, 5, c⟩ = .blk [.int .i64 0]) ?_ ?_
  · repeat' first
      | (with_reducible refine CondX.dec (fun c => ?_) (fun c => ?_)) <;> try (exfalso; omega)
      | (with_reducible refine CondX.beq (fun c => ?_) (fun c => ?_)) <;> try (exfalso; omega)
      | (with_reducible refine CondX.bne (fun c => ?_) (fun c => ?_)) <;> try (exfalso; omega)
      | (with_reducible refine CondX.bool (fun c => ?_) (fun c => ?_)) <;> try (exfalso; omega)
      | simp only [go_sem, I_eq, I_cells, T10, Nat.reduceAdd, Nat.reduceBEq, Nat.reduceEqDiff, Nat.reduceLeDiff, Nat.reduceLT, Nat.reduceSub]
      | simp (disch := omega) only [wrap_in, toNat_succ, toNat_pred, Int.toNat_natCast]
      | with_reducible refine And.intro (by omega) ?_
      | with_reducible refine exI (by omega) ?_
      | fail
    · have hp : parse 65536 4096 t = ([], 0, 3) := by unfold parse; rw [if_pos (by omega)]
      rw [hp]
      exact ⟨_, rfl, .nil, by ((repeat first | with_reducible apply Keeps.alloc | (with_reducible refine Keeps.set ?_ ?hL _; case hL => first | assumption | exact Hp.ok _ _ (by simp) | exact Keeps.new (by assumption) _ _)); first | assumption | exact Keeps.refl _)⟩
    · refine CallX.of ((SplitSeq_spec t [10] _).mono ?_)
      rintro r H ⟨gk, a, b, c, rfl, g3, g4, g5, gn⟩
      have old : ∀ n cs, (((((h.alloc 10 2 (.blk [.l true 0 []])).alloc 10 3 (.blk [.int .i64 0])).alloc 10 4 (.blk [.int .i64 0])).alloc 10 5 (.blk [.l true 0 []])).alloc 10 6 (.blk [.int .i64 0])).con ⟨10, n, h.cnt 10 n⟩ = .blk cs → H.con ⟨10, n, h.cnt 10 n⟩ = .blk cs := fun n cs hc => by
        rcases gk ⟨10, n, h.cnt 10 n⟩ with h1 | h1
        · rw [h1] at hc; cases hc
        · rw [h1, hc]
      repeat' first
        | (with_reducible refine CondX.dec (fun c => ?_) (fun c => ?_)) <;> try (exfalso; omega)
        | (with_reducible refine CondX.beq (fun c => ?_) (fun c => ?_)) <;> try (exfalso; omega)
        | (with_reducible refine CondX.bne (fun c => ?_) (fun c => ?_)) <;> try (exfalso; omega)
        | (with_reducible refine CondX.bool (fun c => ?_) (fun c => ?_)) <;> try (exfalso; omega)
        | simp only [go_sem, I_eq, I_cells, T10, Nat.reduceAdd, Nat.reduceBEq, Nat.reduceEqDiff, Nat.reduceLeDiff, Nat.reduceLT, Nat.reduceSub]
        | simp (disch := omega) only [wrap_in, toNat_succ, toNat_pred, Int.toNat_natCast]
        | with_reducible refine And.intro (by omega) ?_
        | with_reducible refine exI (by omega) ?_
        | fail
      have hK : Keeps h H := by
        intro L
        rcases gk L with h1 | h1
        · left
          by_cases hL : h.con L = .none
          · exact hL
          · exfalso
            have kp : Keeps h (((((h.alloc 10 2 (.blk [.l true 0 []])).alloc 10 3 (.blk [.int .i64 0])).alloc 10 4 (.blk [.int .i64 0])).alloc 10 5 (.blk [.l true 0 []])).alloc 10 6 (.blk [.int .i64 0])) := by ((repeat first | with_reducible apply Keeps.alloc | (with_reducible refine Keeps.set ?_ ?hL _; case hL => first | assumption | exact Hp.ok _ _ (by simp) | exact Keeps.new (by assumption) _ _)); first | assumption | exact Keeps.refl _)
            rcases kp L with h2 | h2
            · exact hL h2
            · rw [h2] at h1; exact hL h1
        · rw [h1]
          exact Keeps.alloc (Keeps.alloc (Keeps.alloc (Keeps.alloc (Keeps.alloc (Keeps.refl h) _ _ _) _ _ _) _ _ _) _ _ _) _ _ _ L
      simp only [go_sem, I_eq, I_cells, Nat.reduceAdd, Nat.reduceBEq, Nat.reduceEqDiff, Nat.reduceLeDiff, Nat.reduceLT, Nat.reduceSub] at gn
      exact ⟨old 2 _ (by simp only [go_sem, I_eq, I_cells, Nat.reduceAdd, Nat.reduceBEq, Nat.reduceEqDiff, Nat.reduceLeDiff, Nat.reduceLT, Nat.reduceSub]), old 3 _ (by simp only [go_sem, I_eq, I_cells, Nat.reduceAdd, Nat.reduceBEq, Nat.reduceEqDiff, Nat.reduceLeDiff, Nat.reduceLT, Nat.reduceSub]), old 4 _ (by simp only [go_sem, I_eq, I_cells, Nat.reduceAdd, Nat.reduceBEq, Nat.reduceEqDiff, Nat.reduceLeDiff, Nat.reduceLT, Nat.reduceSub]), old 5 _ (by simp only [go_sem, I_eq, I_cells, Nat.reduceAdd, Nat.reduceBEq, Nat.reduceEqDiff, Nat.reduceLeDiff, Nat.reduceLT, Nat.reduceSub]), old 6 _ (by simp only [go_sem, I_eq, I_cells, Nat.reduceAdd, Nat.reduceBEq, Nat.reduceEqDiff, Nat.reduceLeDiff, Nat.reduceLT, Nat.reduceSub]), hK, a, b, c, rfl, gn, g3, g4, g5⟩
  rintro s ⟨ht, p2, p3, p4, p5, p6, k2, k3, k4, k5, k6, gK, a, b, c, p16, ga, q3, q4, q5⟩
  obtain ⟨R, hR⟩ : ∃ R, parse 65536 4096 t = R := ⟨_, rfl⟩
  rw [hR]
  unfold parse at hR
  rw [if_neg (by omega)] at hR
  obtain ⟨ls, hls⟩ : ∃ ls, cut 10 t = ls := ⟨_, rfl⟩
  have hlsl : ls.length ≤ 65537 := by have := cut_len 10 t; rw [hls] at this; omega
  have hlp : ∀ p ∈ ls, p.length ≤ 65536 := fun p hp => by have := cut_piece 10 t p (by rw [hls]; exact hp); omega
  have it := splitSeq_iter t 10 a b c ht
  rw [hls] at hR it
  repeat' first
    | (with_reducible refine CondX.dec (fun c => ?_) (fun c => ?_)) <;> try (exfalso; omega)
    | (with_reducible refine CondX.beq (fun c => ?_) (fun c => ?_)) <;> try (exfalso; omega)
    | (with_reducible refine CondX.bne (fun c => ?_) (fun c => ?_)) <;> try (exfalso; omega)
    | (with_reducible refine CondX.bool (fun c => ?_) (fun c => ?_)) <;> try (exfalso; omega)
    | simp only [go_sem, I_eq, I_cells, T10, p16, Nat.reduceAdd, Nat.reduceBEq, Nat.reduceEqDiff, Nat.reduceLeDiff, Nat.reduceLT, Nat.reduceSub]
    | simp (disch := omega) only [wrap_in, toNat_succ, toNat_pred, Int.toNat_natCast]
    | with_reducible refine And.intro (by omega) ?_
    | with_reducible refine exI (by omega) ?_
    | fail
  refine iter_ruleL (fid := 10) (ps := [17]) (T := T10) mixed it ?_ (by simp) (by decide) rfl (of_decide_eq_true (by kernel_rfl)) (by kernel_rfl) (by kernel_rfl) (fun x hx => by obtain ⟨y, _, rfl⟩ := List.mem_map.1 hx; rfl)
    (fun j q => ∃ v out, q.con ⟨10, 2, h.cnt 10 2⟩ = .blk [.l true 0 []] ∧ q.con ⟨10, 3, h.cnt 10 3⟩ = .blk [.int .i64 0] ∧ q.con ⟨10, 4, h.cnt 10 4⟩ = .blk [.int .i64 0] ∧ q.con ⟨10, 5, h.cnt 10 5⟩ = .blk [v] ∧ q.con ⟨10, 6, h.cnt 10 6⟩ = .blk [.int .i64 (j : Nat)] ∧ Acc h q 5 v (out.map encP) ∧ (∀ L, v = .os L → L.f = 10 ∧ L.s = 49) ∧ Keeps h q ∧ parseL 4096 (ls.drop j) (j + 1) out = R ∧ out.length ≤ 4096)
    (fun x q => match x with | .ret => q.con ⟨10, 2, h.cnt 10 2⟩ = .blk [.l true 0 []] ∧ q.con ⟨10, 3, h.cnt 10 3⟩ = .blk [.int .i64 R.2.1] ∧ q.con ⟨10, 4, h.cnt 10 4⟩ = .blk [.int .i64 R.2.2] ∧ R.1 = [] ∧ Keeps h q | _ => False) ?_ ?_ ?_ ?_ ?_ ?_ _
  · intro p hp
    simp only [List.mem_cons, List.not_mem_nil, or_false] at hp
    rcases hp with rfl | rfl | rfl
    · exact ⟨by simp, q3⟩
    · exact ⟨by simp, q4⟩
    · exact ⟨by simp, q5⟩
  · rintro j q q' ⟨v, out, k2, k3, k4, k5, k6, ga, gv, gk, hd, hl⟩ hs
    have e := fun (a b : Nat) (ha : a < 1000000) => hs ⟨10, a, b⟩ (.inr ⟨by simp, nlp ha⟩)
    exact ⟨v, out, by rw [e _ _ (by decide), k2], by rw [e _ _ (by decide), k3], by rw [e _ _ (by decide), k4], by rw [e _ _ (by decide), k5], by rw [e _ _ (by decide), k6],
      hs.acc ga (fun L hL => by obtain ⟨h1, h2⟩ := gv L hL; rw [h1, h2]; exact ⟨by simp, nlp (by decide)⟩), gv, hs.keeps (gK.set ‹_› _) gk, hd, hl⟩
  · rintro x q q' hD hs
    have e := fun (a b : Nat) (ha : a < 1000000) => hs ⟨10, a, b⟩ (.inr ⟨by simp, nlp ha⟩)
    cases x with
    | ret =>
      obtain ⟨k2, k3, k4, hr, gk⟩ := hD
      exact ⟨by rw [e _ _ (by decide), k2], by rw [e _ _ (by decide), k3], by rw [e _ _ (by decide), k4], hr, hs.keeps (gK.set ‹_› _) gk⟩
    | normal => exact hD.elim
    | exit id => exact hD.elim
  · exact ⟨_, [], k2, k3, k4, k5, k6, .nil, (fun L hL => by cases hL), gK, by rw [List.drop_zero]; exact hR, by simp⟩
  · clear k2 k3 k4 k5 k6
    rintro j hj q ⟨v, out, k2, k3, k4, k5, k6, ga', gv, gk, hd, hl⟩
    rw [List.length_map] at hj
    rw [List.getElem_map]
    refine awp_asgF [(7, 7)] (by kernel_rfl) (fun s => s.slots 7 = strV ls[j] ∧ s.hp = q) ?_ ?_
    · simp only [go_sem, I_eq, I_cells, T10, Nat.reduceAdd, Nat.reduceBEq, Nat.reduceEqDiff, Nat.reduceLeDiff, Nat.reduceLT, Nat.reduceSub]
    rintro s1 fr1 ⟨p7, rfl⟩
    have gk0 := gk
    have w1 : IntKind.i64.wrap ((j : Int) + 1) = ((j + 1 : Nat) : Int) := by rw [IntWalk.i64_in _ (by omega)]; simp
    rw [drop_cons hj] at hd
    have hpl := hlp _ (List.getElem_mem hj)
    obtain ⟨l, hle⟩ : ∃ l, ls[j] = l := ⟨_, rfl⟩
    rw [hle] at p7 hpl hd
    rw [awp_block, awp_assoc, awp_mid]
    refine awp_cutF [(8, 8), (18, 21)] (by kernel_rfl) (fun s => s.slots 8 = .pt ⟨10, 8, s1.hp.cnt 10 8⟩ 0 0 0 ∧ s.hp.con ⟨10, 8, s1.hp.cnt 10 8⟩ = .blk [.l true 0 []] ∧
      s.hp.con ⟨10, 2, h.cnt 10 2⟩ = .blk [.l true 0 []] ∧ s.hp.con ⟨10, 3, h.cnt 10 3⟩ = .blk [.int .i64 0] ∧ s.hp.con ⟨10, 4, h.cnt 10 4⟩ = .blk [.int .i64 0] ∧ s.hp.con ⟨10, 5, h.cnt 10 5⟩ = .blk [v] ∧ s.hp.con ⟨10, 6, h.cnt 10 6⟩ = .blk [.int .i64 ((j + 1 : Nat) : Int)] ∧ Acc h s.hp 5 v (out.map encP) ∧ Keeps h s.hp ∧ KeepsF [28] s1.hp s.hp ∧
      ∃ a b c, s.slots 21 = AV.fn (.func 35) [.pt ⟨28, 4, b⟩ 0 0 0, .pt ⟨28, 3, a⟩ 0 0 0, .pt ⟨28, 5, c⟩ 0 0 0] ∧ s1.hp.con ⟨28, 3, a⟩ = .none ∧ h.con ⟨28, 3, a⟩ = .none ∧ s.hp.con ⟨28, 3, a⟩ = .blk [strV l] ∧ s.hp.con ⟨28, 4, b⟩ = .blk [strV [32]] ∧ s.hp.con ⟨28, 5, c⟩ = .blk [.int .i64 0]) ?_ ?_
    · repeat' first
        | (with_reducible refine CondX.dec (fun c => ?_) (fun c => ?_)) <;> try (exfalso; omega)
        | (with_reducible refine CondX.beq (fun c => ?_) (fun c => ?_)) <;> try (exfalso; omega)
        | (with_reducible refine CondX.bne (fun c => ?_) (fun c => ?_)) <;> try (exfalso; omega)
        | (with_reducible refine CondX.bool (fun c => ?_) (fun c => ?_)) <;> try (exfalso; omega)
        | simp only [go_sem, I_eq, I_cells, T10, fr1.at, p2, p3, p4, p5, p6, p7, k2, k3, k4, k5, k6, w1, Nat.reduceAdd, Nat.reduceBEq, Nat.reduceEqDiff, Nat.reduceLeDiff, Nat.reduceLT, Nat.reduceSub]
        | simp (disch := omega) only [wrap_in, toNat_succ, toNat_pred, Int.toNat_natCast]
        | with_reducible refine And.intro (by omega) ?_
        | with_reducible refine exI (by omega) ?_
        | fail
      obtain ⟨H1, hH1⟩ : ∃ H1, ((s1.hp.set ⟨10, 6, h.cnt 10 6⟩ (.blk [.int .i64 ((j + 1 : Nat) : Int)])).alloc 10 8 (.blk [.l true 0 []])) = H1 := ⟨_, rfl⟩
      have c8 : H1.con ⟨10, 8, s1.hp.cnt 10 8⟩ = .blk [.l true 0 []] := by rw [← hH1]; simp only [go_sem, I_eq, I_cells, Nat.reduceAdd, Nat.reduceBEq, Nat.reduceEqDiff, Nat.reduceLeDiff, Nat.reduceLT, Nat.reduceSub]
      have c2 : H1.con ⟨10, 2, h.cnt 10 2⟩ = .blk [.l true 0 []] := by rw [← hH1]; simp only [go_sem, I_eq, I_cells, k2, Nat.reduceAdd, Nat.reduceBEq, Nat.reduceEqDiff, Nat.reduceLeDiff, Nat.reduceLT, Nat.reduceSub]
      have c3 : H1.con ⟨10, 3, h.cnt 10 3⟩ = .blk [.int .i64 0] := by rw [← hH1]; simp only [go_sem, I_eq, I_cells, k3, Nat.reduceAdd, Nat.reduceBEq, Nat.reduceEqDiff, Nat.reduceLeDiff, Nat.reduceLT, Nat.reduceSub]
      have c4 : H1.con ⟨10, 4, h.cnt 10 4⟩ = .blk [.int .i64 0] := by rw [← hH1]; simp only [go_sem, I_eq, I_cells, k4, Nat.reduceAdd, Nat.reduceBEq, Nat.reduceEqDiff, Nat.reduceLeDiff, Nat.reduceLT, Nat.reduceSub]
      have c5 : H1.con ⟨10, 5, h.cnt 10 5⟩ = .blk [v] := by rw [← hH1]; simp only [go_sem, I_eq, I_cells, k5, Nat.reduceAdd, Nat.reduceBEq, Nat.reduceEqDiff, Nat.reduceLeDiff, Nat.reduceLT, Nat.reduceSub]
      have c6 : H1.con ⟨10, 6, h.cnt 10 6⟩ = .blk [.int .i64 ((j + 1 : Nat) : Int)] := by rw [← hH1]; simp only [go_sem, I_eq, I_cells, k6, Nat.reduceAdd, Nat.reduceBEq, Nat.reduceEqDiff, Nat.reduceLeDiff, Nat.reduceLT, Nat.reduceSub]
      have cK : Keeps h H1 := by rw [← hH1]; exact (gk.set (h.ok _ (by simp)) _).alloc _ _ _
      have cF : KeepsF [28] s1.hp H1 := by rw [← hH1]; exact ((KeepsF.refl _ _).set (by simp) _).alloc _ _ _
      have cA : Acc h H1 5 v (out.map encP) := by
        rw [← hH1]
        refine (ga'.mono fun L hL => ?_).alloc _ _ _
        obtain ⟨h1, h2⟩ := gv L hL
        have e : L ≠ ⟨10, 6, h.cnt 10 6⟩ := fun e => by rw [e] at h2; simp at h2
        simp [Hp.set, e]
      have cn : ∀ x, H1.con ⟨28, 3, x⟩ = .none → s1.hp.con ⟨28, 3, x⟩ = .none := fun x hx => by rw [← hH1] at hx; simp only [go_sem, I_eq, I_cells, Nat.reduceAdd, Nat.reduceBEq, Nat.reduceEqDiff, Nat.reduceLeDiff, Nat.reduceLT, Nat.reduceSub] at hx; exact hx
      rw [hH1]
      refine CallX.of ((SplitSeq_spec l [32] _).mono ?_)
      rintro r H ⟨gk2, a, b, c, rfl, g3, g4, g5, gn⟩
      repeat' first
        | (with_reducible refine CondX.dec (fun c => ?_) (fun c => ?_)) <;> try (exfalso; omega)
        | (with_reducible refine CondX.beq (fun c => ?_) (fun c => ?_)) <;> try (exfalso; omega)
        | (with_reducible refine CondX.bne (fun c => ?_) (fun c => ?_)) <;> try (exfalso; omega)
        | (with_reducible refine CondX.bool (fun c => ?_) (fun c => ?_)) <;> try (exfalso; omega)
        | simp only [go_sem, I_eq, I_cells, T10, Nat.reduceAdd, Nat.reduceBEq, Nat.reduceEqDiff, Nat.reduceLeDiff, Nat.reduceLT, Nat.reduceSub]
        | simp (disch := omega) only [wrap_in, toNat_succ, toNat_pred, Int.toNat_natCast]
        | with_reducible refine And.intro (by omega) ?_
        | with_reducible refine exI (by omega) ?_
        | fail
      exact ⟨gk2.cons c8 (by simp), gk2.cons c2 (by simp), gk2.cons c3 (by simp), gk2.cons c4 (by simp), gk2.cons c5 (by simp), gk2.cons c6 (by simp), cA.keep gk2, cK.trans gk2, cF.trans (KeepsF.keeps gk2), a, b, c, rfl, cn _ gn, cK.gone gn, g3, g4, g5⟩
    clear k2 k3 k4 k5 k6 ga' gk q3 q4 q5 p16
    rintro s2 fr2 ⟨p8, k8, k2, k3, k4, k5, k6, ga1, gk1, gf, a', b', c', p21, gn1, gn2, q3, q4, q5⟩
    have it2 := splitSeq_iter l 32 a' b' c' hpl
    obtain ⟨pc, hpc⟩ : ∃ pc, cut 32 l = pc := ⟨_, rfl⟩
    have hpcl : pc.length ≤ 65537 := by have := cut_len 32 l; rw [hpc] at this; omega
    have hpcp : ∀ p ∈ pc, p.length ≤ 65536 := fun p hp => by have := cut_piece 32 l p (by rw [hpc]; exact hp); omega
    rw [hpc] at it2
    have hwd : words l = pc.filter (fun w => !w.isEmpty) := by unfold words; rw [hpc]
    repeat' first
      | (with_reducible refine CondX.dec (fun c => ?_) (fun c => ?_)) <;> try (exfalso; omega)
      | (with_reducible refine CondX.beq (fun c => ?_) (fun c => ?_)) <;> try (exfalso; omega)
      | (with_reducible refine CondX.bne (fun c => ?_) (fun c => ?_)) <;> try (exfalso; omega)
      | (with_reducible refine CondX.bool (fun c => ?_) (fun c => ?_)) <;> try (exfalso; omega)
      | simp only [go_sem, I_eq, I_cells, T10, p21, Nat.reduceAdd, Nat.reduceBEq, Nat.reduceEqDiff, Nat.reduceLeDiff, Nat.reduceLT, Nat.reduceSub]
      | simp (disch := omega) only [wrap_in, toNat_succ, toNat_pred, Int.toNat_natCast]
      | with_reducible refine And.intro (by omega) ?_
      | with_reducible refine exI (by omega) ?_
      | fail
    refine iter_ruleL (fid := 10) (ps := [22]) (T := T10) mixed it2 ?_ (by simp) (by decide) rfl (of_decide_eq_true (by kernel_rfl)) (by kernel_rfl) (by kernel_rfl) (fun x hx => by obtain ⟨y, _, rfl⟩ := List.mem_map.1 hx; rfl)
      (fun i g => ∃ v2, g.con ⟨10, 8, s1.hp.cnt 10 8⟩ = .blk [v2] ∧ Acc h g 1 v2 (((pc.take i).filter (fun w => !w.isEmpty)).map strV) ∧ (∀ L, v2 = .os L → L.f = 10 ∧ L.s = 28) ∧
        g.con ⟨10, 2, h.cnt 10 2⟩ = .blk [.l true 0 []] ∧ g.con ⟨10, 3, h.cnt 10 3⟩ = .blk [.int .i64 0] ∧ g.con ⟨10, 4, h.cnt 10 4⟩ = .blk [.int .i64 0] ∧ g.con ⟨10, 5, h.cnt 10 5⟩ = .blk [v] ∧ g.con ⟨10, 6, h.cnt 10 6⟩ = .blk [.int .i64 ((j + 1 : Nat) : Int)] ∧ Acc h g 5 v (out.map encP) ∧ Keeps h g ∧ KeepsF [28] s1.hp g)
      (fun _ _ => False) ?_ (fun _ _ _ hf => hf.elim) ?_ ?_ ?_ (fun _ _ _ hf => hf.elim) _
    · intro p hp
      simp only [List.mem_cons, List.not_mem_nil, or_false] at hp
      rcases hp with rfl | rfl | rfl
      · exact ⟨by simp, q3⟩
      · exact ⟨by simp, q4⟩
      · exact ⟨by simp, q5⟩
    · rintro i g g' ⟨v2, k8, ga2, gv2, k2, k3, k4, k5, k6, ga1, gk, gf1⟩ hs
      have e := fun (a b : Nat) (ha : a < 1000000) => hs ⟨10, a, b⟩ (.inr ⟨by simp, nlp ha⟩)
      exact ⟨v2, by rw [e _ _ (by decide), k8], hs.acc ga2 (fun L hL => by obtain ⟨h1, h2⟩ := gv2 L hL; rw [h1, h2]; exact ⟨by simp, nlp (by decide)⟩), gv2, by rw [e _ _ (by decide), k2], by rw [e _ _ (by decide), k3], by rw [e _ _ (by decide), k4], by rw [e _ _ (by decide), k5], by rw [e _ _ (by decide), k6],
        hs.acc ga1 (fun L hL => by obtain ⟨h1, h2⟩ := gv L hL; rw [h1, h2]; exact ⟨by simp, nlp (by decide)⟩), hs.keeps (gk1.set gn2 _) gk, gf.same gn1 gf1 hs⟩
    · exact ⟨_, k8, .nil, (fun L hL => by cases hL), k2, k3, k4, k5, k6, ga1, gk1, gf⟩
    · clear k8 k2 k3 k4 k5 k6 ga1
      rintro i hi g ⟨v2, k8, ga2, gv2, k2, k3, k4, k5, k6, ga1, gk, gf1⟩
      rw [List.length_map] at hi
      rw [List.getElem_map]
      have hpt : (pc.take (i + 1)).filter (fun w => !w.isEmpty) = (pc.take i).filter (fun w => !w.isEmpty) ++ (if pc[i] = [] then [] else [pc[i]]) := by
        rw [List.take_succ_eq_append_getElem hi, List.filter_append]
        congr 1
        cases h : pc[i] <;> simp
      rw [hpt]
      have h2l : ((pc.take i).filter (fun w => !w.isEmpty)).length ≤ 65537 := by
        have h1 := List.length_filter_le (fun w : Bs => !w.isEmpty) (pc.take i)
        rw [List.length_take] at h1; omega
      repeat' first
        | (with_reducible refine CondX.dec (fun c => ?_) (fun c => ?_)) <;> try (exfalso; omega)
        | (with_reducible refine CondX.beq (fun c => ?_) (fun c => ?_)) <;> try (exfalso; omega)
        | (with_reducible refine CondX.bne (fun c => ?_) (fun c => ?_)) <;> try (exfalso; omega)
        | (with_reducible refine CondX.bool (fun c => ?_) (fun c => ?_)) <;> try (exfalso; omega)
        | simp only [go_sem, I_eq, I_cells, T10, fr2.at, fr1.at, p2, p3, p4, p5, p6, p8, k2, k3, k4, k5, k6, k8, Nat.reduceAdd, Nat.reduceBEq, Nat.reduceEqDiff, Nat.reduceLeDiff, Nat.reduceLT, Nat.reduceSub]
        | simp (disch := omega) only [wrap_in, toNat_succ, toNat_pred, Int.toNat_natCast]
        | with_reducible refine And.intro (by omega) ?_
        | with_reducible refine exI (by omega) ?_
        | fail
      · rw [if_pos c, List.append_nil]
        exact ⟨KeepsF.refl _ _, v2, rfl, ga2, gv2, ga1, gk, gf1⟩
      · rw [if_neg c, List.map_append]
        refine ga2.app gk (by simp only [List.length_map, List.length_cons, List.length_nil]; omega) (by simp only [List.length_map, List.length_cons, List.length_nil]; omega) (by decide) fun H' v' a' kp' f1 f2 ev => ?_
        have d8 := f2 _ _ k8
        have d2 := f2 _ _ k2
        have d3 := f2 _ _ k3
        have d4 := f2 _ _ k4
        have d5 := f2 _ _ k5
        have d6 := f2 _ _ k6
        have kfa : KeepsF [28] g H' := KeepsF.app (KeepsF.refl _ _) f1 (fun L hL => by rw [(gv2 L hL).1]; simp)
        subst ev
        repeat' first
          | (with_reducible refine CondX.dec (fun c => ?_) (fun c => ?_)) <;> try (exfalso; omega)
          | (with_reducible refine CondX.beq (fun c => ?_) (fun c => ?_)) <;> try (exfalso; omega)
          | (with_reducible refine CondX.bne (fun c => ?_) (fun c => ?_)) <;> try (exfalso; omega)
          | (with_reducible refine CondX.bool (fun c => ?_) (fun c => ?_)) <;> try (exfalso; omega)
          | simp only [go_sem, I_eq, I_cells, T10, d8, d2, d3, d4, d5, d6, Nat.reduceAdd, Nat.reduceBEq, Nat.reduceEqDiff, Nat.reduceLeDiff, Nat.reduceLT, Nat.reduceSub]
          | simp (disch := omega) only [wrap_in, toNat_succ, toNat_pred, Int.toNat_natCast]
          | with_reducible refine And.intro (by omega) ?_
          | with_reducible refine exI (by omega) ?_
          | fail
        have vne : ∀ L, (v = .os L → L ≠ ⟨10, 8, s1.hp.cnt 10 8⟩) := fun L hL e => by
          obtain ⟨_, h2⟩ := gv L hL
          rw [e] at h2; simp at h2
        have a5 : Acc h H' 5 v (out.map encP) := ga1.mono fun L hL => by
          have hcL : g.con L ≠ .none := by
            subst hL
            rw [ga1.own'.1]; simp
          exact f1 L hcL (fun L2 hL2 e => by
            obtain ⟨_, h2⟩ := gv L hL
            obtain ⟨_, h3⟩ := gv2 L2 hL2
            rw [e, h3] at h2; simp at h2)
        have n8 : h.con ⟨10, 8, s1.hp.cnt 10 8⟩ = .none := gk0.new _ _
        refine ⟨kfa.set (by simp) _, _, rfl, a'.mono fun L hL => ?_, (fun L hL => by injection hL with hL; subst hL; exact ⟨rfl, rfl⟩), a5.mono fun L hL => ?_, kp'.set n8 _, (gf1.trans kfa).set (by simp) _⟩
        · injection hL with hL
          subst hL
          simp [Hp.set]
        · have := vne L hL
          simp [Hp.set, this]
    · clear k8 k2 k3 k4 k5 k6 ga1
      rintro g ⟨v2, k8, ga2, gv2, k2, k3, k4, k5, k6, ga1, gk, gf1⟩
      rw [List.length_map, List.take_length, ← hwd] at ga2
      rw [parseL_cons] at hd
      obtain ⟨ws, hws⟩ : ∃ ws, words l = ws := ⟨_, rfl⟩
      have hwl := words_len l
      have hwp : ∀ x ∈ ws, x.length ≤ 65536 := fun x hx => by have := words_piece (l := l) (by rw [hws]; exact hx); omega
      rw [hws] at ga2 hd hwl
      have fin : ∀ out', parseL 4096 (ls.drop (j + 1)) (j + 1 + 1) out' = R → True := fun _ _ => trivial
      obtain ⟨xs, hxs⟩ : ∃ xs, ws.map strV = xs := ⟨_, rfl⟩
      rw [hxs] at ga2
      cases ga2 with
      | nil =>
        have h0 : ws = [] := by simpa using hxs
        repeat' first
          | (with_reducible refine CondX.dec (fun c => ?_) (fun c => ?_)) <;> try (exfalso; omega)
          | (with_reducible refine CondX.beq (fun c => ?_) (fun c => ?_)) <;> try (exfalso; omega)
          | (with_reducible refine CondX.bne (fun c => ?_) (fun c => ?_)) <;> try (exfalso; omega)
          | (with_reducible refine CondX.bool (fun c => ?_) (fun c => ?_)) <;> try (exfalso; omega)
          | simp only [go_sem, I_eq, I_cells, T10, fr2.at, fr1.at, p2, p3, p4, p5, p6, p8, k2, k3, k4, k5, k6, k8, Nat.reduceAdd, Nat.reduceBEq, Nat.reduceEqDiff, Nat.reduceLeDiff, Nat.reduceLT, Nat.reduceSub]
          | simp (disch := omega) only [wrap_in, toNat_succ, toNat_pred, Int.toNat_natCast]
          | with_reducible refine And.intro (by omega) ?_
          | with_reducible refine exI (by omega) ?_
          | fail
        rw [if_pos h0] at hd
        exact ⟨v, out, rfl, ga1, gv, gk, hd, hl⟩
      | own L2 _ hc2 hn2 =>
        subst hxs
        repeat' first
          | (with_reducible refine CondX.dec (fun c => ?_) (fun c => ?_)) <;> try (exfalso; omega)
          | (with_reducible refine CondX.beq (fun c => ?_) (fun c => ?_)) <;> try (exfalso; omega)
          | (with_reducible refine CondX.bne (fun c => ?_) (fun c => ?_)) <;> try (exfalso; omega)
          | (with_reducible refine CondX.bool (fun c => ?_) (fun c => ?_)) <;> try (exfalso; omega)
          | simp only [go_sem, I_eq, I_cells, T10, fr2.at, fr1.at, p2, p3, p4, p5, p6, p8, k2, k3, k4, k5, k6, k8, hc2, List.length_map, Nat.reduceAdd, Nat.reduceBEq, Nat.reduceEqDiff, Nat.reduceLeDiff, Nat.reduceLT, Nat.reduceSub]
          | simp (disch := omega) only [wrap_in, toNat_succ, toNat_pred, Int.toNat_natCast]
          | with_reducible refine And.intro (by omega) ?_
          | with_reducible refine exI (by omega) ?_
          | fail
        · have h0 : ws = [] := List.eq_nil_of_length_eq_zero (by omega)
          rw [if_pos h0] at hd
          exact ⟨v, out, rfl, ga1, gv, gk, hd, hl⟩
        · have hpos : 0 < ws.length := by omega
          have h0 : ws ≠ [] := fun e => by rw [e] at hpos; simp at hpos
          rw [if_neg h0] at hd
          refine CallX.of (CallK.lendL [L2] (line_spec ws false hpos (by omega) hwp) (lend1 hc2) (by simp [AV.sn, AV.sns, encP, stpC]) ?_)
          have hlen : ∀ c K, lenK (g.alloc 10 10 c) v K = K (.int .i64 out.length) := fun c K => by rw [(ga1.alloc _ _ _).lenE, List.length_map]
          cases hlr : lineR ws with
          | none =>
            rw [hlr] at hd
            simp only at hd
            repeat' first
              | (with_reducible refine CondX.dec (fun c => ?_) (fun c => ?_)) <;> try (exfalso; omega)
              | (with_reducible refine CondX.beq (fun c => ?_) (fun c => ?_)) <;> try (exfalso; omega)
              | (with_reducible refine CondX.bne (fun c => ?_) (fun c => ?_)) <;> try (exfalso; omega)
              | (with_reducible refine CondX.bool (fun c => ?_) (fun c => ?_)) <;> try (exfalso; omega)
              | simp only [go_sem, I_eq, I_cells, T10, Option.getD_none, Option.isSome_none, fr2.at, fr1.at, p2, p3, p4, p5, p6, p8, k2, k3, k4, k5, k6, encP_cells, encP_eq, stpC_len, stpC_all, stpC_zover, stpC_take, Nat.reduceAdd, Nat.reduceBEq, Nat.reduceEqDiff, Nat.reduceLeDiff, Nat.reduceLT, Nat.reduceSub]
              | simp (disch := omega) only [wrap_in, toNat_succ, toNat_pred, Int.toNat_natCast]
              | with_reducible refine And.intro (by omega) ?_
              | with_reducible refine exI (by omega) ?_
              | fail
            refine ⟨by decide, (((gf1.alloc _ _ _).set (by simp) _).set (by simp) _).set (by simp) _, by rw [← hd], by rw [← hd], by rw [← hd], ((((gk.alloc _ _ _).set (h.ok _ (by simp)) _).set (h.ok _ (by simp)) _).set (h.ok _ (by simp)) _)⟩
          | some sp =>
            rw [hlr] at hd
            simp only at hd
            repeat' first
              | (with_reducible refine CondX.dec (fun c => ?_) (fun c => ?_)) <;> try (exfalso; omega)
              | (with_reducible refine CondX.beq (fun c => ?_) (fun c => ?_)) <;> try (exfalso; omega)
              | (with_reducible refine CondX.bne (fun c => ?_) (fun c => ?_)) <;> try (exfalso; omega)
              | (with_reducible refine CondX.bool (fun c => ?_) (fun c => ?_)) <;> try (exfalso; omega)
              | simp only [go_sem, I_eq, I_cells, T10, Option.getD_some, Option.isSome_some, fr2.at, fr1.at, p2, p3, p4, p5, p6, p8, k2, k3, k4, k5, k6, hlen, encP_cells, encP_eq, stpC_len, stpC_all, stpC_zover, stpC_take, Nat.reduceAdd, Nat.reduceBEq, Nat.reduceEqDiff, Nat.reduceLeDiff, Nat.reduceLT, Nat.reduceSub]
              | simp (disch := omega) only [wrap_in, toNat_succ, toNat_pred, Int.toNat_natCast]
              | with_reducible refine And.intro (by omega) ?_
              | with_reducible refine exI (by omega) ?_
              | fail
            · rw [if_pos (by omega)] at hd
              refine ⟨by decide, (((gf1.alloc _ _ _).set (by simp) _).set (by simp) _).set (by simp) _, by rw [← hd], by rw [← hd], by rw [← hd], ((((gk.alloc _ _ _).set (h.ok _ (by simp)) _).set (h.ok _ (by simp)) _).set (h.ok _ (by simp)) _)⟩
            · rw [if_neg (by omega)] at hd
              refine (ga1.alloc _ _ _).app (gk.alloc _ _ _) (by simp only [List.length_map, List.length_cons, List.length_nil]; omega) (by simp only [List.length_map, List.length_cons, List.length_nil]; omega) (by decide) fun H' v' a' kp' f1 f2 ev => ?_
              subst ev
              obtain ⟨g1, hg1⟩ : ∃ g1, g.alloc 10 10 (.blk (stpC sp)) = g1 := ⟨_, rfl⟩
              have d2 : H'.con ⟨10, 2, h.cnt 10 2⟩ = .blk [.l true 0 []] := f2 _ _ (by simp only [go_sem, I_eq, I_cells, k2, Nat.reduceAdd, Nat.reduceBEq, Nat.reduceEqDiff, Nat.reduceLeDiff, Nat.reduceLT, Nat.reduceSub])
              have d3 : H'.con ⟨10, 3, h.cnt 10 3⟩ = .blk [.int .i64 0] := f2 _ _ (by simp only [go_sem, I_eq, I_cells, k3, Nat.reduceAdd, Nat.reduceBEq, Nat.reduceEqDiff, Nat.reduceLeDiff, Nat.reduceLT, Nat.reduceSub])
              have d4 : H'.con ⟨10, 4, h.cnt 10 4⟩ = .blk [.int .i64 0] := f2 _ _ (by simp only [go_sem, I_eq, I_cells, k4, Nat.reduceAdd, Nat.reduceBEq, Nat.reduceEqDiff, Nat.reduceLeDiff, Nat.reduceLT, Nat.reduceSub])
              have d5 : H'.con ⟨10, 5, h.cnt 10 5⟩ = .blk [v] := f2 _ _ (by simp only [go_sem, I_eq, I_cells, k5, Nat.reduceAdd, Nat.reduceBEq, Nat.reduceEqDiff, Nat.reduceLeDiff, Nat.reduceLT, Nat.reduceSub])
              have d6 : H'.con ⟨10, 6, h.cnt 10 6⟩ = .blk [.int .i64 ((j + 1 : Nat) : Int)] := f2 _ _ (by simp only [go_sem, I_eq, I_cells, k6, Nat.reduceAdd, Nat.reduceBEq, Nat.reduceEqDiff, Nat.reduceLeDiff, Nat.reduceLT, Nat.reduceSub])
              have kfa : KeepsF [28] s1.hp H' := KeepsF.app (gf1.alloc _ _ _) f1 (fun L hL => by rw [(gv L hL).1]; simp)
              rw [hg1] at a' ⊢
              repeat' first
                | (with_reducible refine CondX.dec (fun c => ?_) (fun c => ?_)) <;> try (exfalso; omega)
                | (with_reducible refine CondX.beq (fun c => ?_) (fun c => ?_)) <;> try (exfalso; omega)
                | (with_reducible refine CondX.bne (fun c => ?_) (fun c => ?_)) <;> try (exfalso; omega)
                | (with_reducible refine CondX.bool (fun c => ?_) (fun c => ?_)) <;> try (exfalso; omega)
                | simp only [go_sem, I_eq, I_cells, d2, d3, d4, d5, d6, Nat.reduceAdd, Nat.reduceBEq, Nat.reduceEqDiff, Nat.reduceLeDiff, Nat.reduceLT, Nat.reduceSub]
                | simp (disch := omega) only [wrap_in, toNat_succ, toNat_pred, Int.toNat_natCast]
                | with_reducible refine And.intro (by omega) ?_
                | with_reducible refine exI (by omega) ?_
                | fail
              refine ⟨kfa.set (by simp) _, _, out ++ [sp], rfl, ?_, (fun L hL => by injection hL with hL; subst hL; exact ⟨rfl, rfl⟩), kp'.set (h.ok _ (by simp)) _, hd, by rw [List.length_append, List.length_singleton]; omega⟩
              rw [List.map_append]
              refine Acc.mono a' fun L hL => ?_
              injection hL with hL
              subst hL
              simp [Hp.set]
  · rintro q ⟨v, out, k2, k3, k4, k5, k6, ga', gv, gk, hd, hl⟩
    rw [List.length_map, List.drop_length] at hd
    have hr : R = (out, 0, 0) := by rw [← hd]; rfl
    have gcs := ga'.cells
    have gce := ga'.cell
    repeat' first
      | (with_reducible refine CondX.dec (fun c => ?_) (fun c => ?_)) <;> try (exfalso; omega)
      | (with_reducible refine CondX.beq (fun c => ?_) (fun c => ?_)) <;> try (exfalso; omega)
      | (with_reducible refine CondX.bne (fun c => ?_) (fun c => ?_)) <;> try (exfalso; omega)
      | (with_reducible refine CondX.bool (fun c => ?_) (fun c => ?_)) <;> try (exfalso; omega)
      | simp only [go_sem, I_eq, I_cells, T10, p2, p3, p4, p5, p6, k2, k3, k4, k5, k6, gcs, gce, Nat.reduceAdd, Nat.reduceBEq, Nat.reduceEqDiff, Nat.reduceLeDiff, Nat.reduceLT, Nat.reduceSub]
      | simp (disch := omega) only [wrap_in, toNat_succ, toNat_pred, Int.toNat_natCast]
      | with_reducible refine And.intro (by omega) ?_
      | with_reducible refine exI (by omega) ?_
      | fail
    rw [hr]
    refine ⟨v, rfl, ga'.mono fun L hL => ?_, ((gk.set (h.ok _ (by simp)) _).set (h.ok _ (by simp)) _).set (h.ok _ (by simp)) _⟩
    obtain ⟨h1, h2⟩ := gv L hL
    have e : ∀ n, n < 49 → L ≠ ⟨10, n, h.cnt 10 n⟩ := fun n hn e => by rw [e] at h2; simp only at h2; omega
    simp [Hp.set, e]
  · rintro x q hx hD
    cases x with
    | ret =>
      obtain ⟨k2, k3, k4, hr, gk⟩ := hD
      repeat' first
        | (with_reducible refine CondX.dec (fun c => ?_) (fun c => ?_)) <;> try (exfalso; omega)
        | (with_reducible refine CondX.beq (fun c => ?_) (fun c => ?_)) <;> try (exfalso; omega)
        | (with_reducible refine CondX.bne (fun c => ?_) (fun c => ?_)) <;> try (exfalso; omega)
        | (with_reducible refine CondX.bool (fun c => ?_) (fun c => ?_)) <;> try (exfalso; omega)
        | simp only [go_sem, I_eq, I_cells, T10, p2, p3, p4, p5, p6, k2, k3, k4, Nat.reduceAdd, Nat.reduceBEq, Nat.reduceEqDiff, Nat.reduceLeDiff, Nat.reduceLT, Nat.reduceSub]
        | simp (disch := omega) only [wrap_in, toNat_succ, toNat_pred, Int.toNat_natCast]
        | with_reducible refine And.intro (by omega) ?_
        | with_reducible refine exI (by omega) ?_
        | fail
      exact ⟨_, rfl, by rw [hr]; exact .nil, gk⟩
    | normal => exact hD.elim
    | exit id => exact hD.elim
end Go.Proofs.YtocfaflghcgniaaDoor
/- The document's Line. -/
namespace Go.Sc
theorem names_at {m : Nat} (h1 : 1 ≤ m) (h : m ≤ 11) : names[m - 1]? = some (nameOf m) := by
  unfold names
  rw [List.getElem?_map, List.getElem?_range (by omega)]
  simp; congr 1; omega
end Go.Sc
namespace Go.Proofs.YtocfaflghcgniaaDoor
open Go Go.T Go.Proofs Go.Sc Go.RowKit
set_option linter.unusedSimpArgs false
set_option linter.unusedVariables false
set_option maxRecDepth 10000
set_option maxHeartbeats 4000000
end Go.Proofs.YtocfaflghcgniaaDoor
/- The document's Text. -/
namespace Go.Sc
theorem decDigits_len : ∀ (k u : Nat), u < 10 ^ (k + 1) → (Lib.decDigits u).length ≤ k + 1 := by
  intro k
  induction k with
  | zero => intro u h; rw [Lib.decDigits, dif_pos (by omega)]; simp
  | succ k ih =>
    intro u h
    rw [Lib.decDigits]
    by_cases hu : u < 10
    · rw [dif_pos hu]; simp
    · rw [dif_neg hu, List.length_append, List.length_singleton]
      have := ih (u / 10) (by rw [Nat.pow_succ] at h; omega)
      omega
theorem itoa_len {x : Int} (h1 : -1000000000000000000 < x) (h2 : x < 1000000000000000000) : (Lib.itoa x).length ≤ 19 := by
  unfold Lib.itoa
  split
  · have := decDigits_len 17 x.natAbs (by omega)
    simp; omega
  · have := decDigits_len 17 x.toNat (by omega)
    omega
def inR (x : Int) : Bool := decide (-1000000000000000000 < x) && decide (x < 1000000000000000000)
def sayN (xs : List Int) : Bs := xs.flatMap fun x => 32 :: Lib.itoa x
def okS (s : Stp) : Bool := !(nameI s.kind).isEmpty && (toldL s).all inR && decide (made s.kind.toNat (toldL s) = s)
def sayS (s : Stp) : Bs := nameI s.kind ++ sayN (toldL s) ++ [10]
/-- What Text says: none where a step is none. -/
def textR : List Stp → Option Bs
  | [] => some []
  | s :: r => if okS s then (textR r).map (sayS s ++ ·) else none
theorem textR_cons (s : Stp) (r : List Stp) : textR (s :: r) = if okS s then (textR r).map (sayS s ++ ·) else none := by conv => lhs; unfold textR
theorem textR_app : ∀ (a b : List Stp), textR (a ++ b) = (textR a).bind fun x => (textR b).map (x ++ ·) := by
  intro a
  induction a with
  | nil => intro b; simp [textR]
  | cons s r ih =>
    intro b
    rw [List.cons_append, textR_cons, textR_cons, ih]
    by_cases h : okS s = true
    · rw [if_pos h, if_pos h]
      cases textR r with
      | none => rfl
      | some x => cases textR b <;> simp
    · rw [if_neg h, if_neg h]; rfl
theorem textR_next {a : List Stp} {i : Nat} {x : Bs} (hi : i < a.length) (h : textR (a.take i) = some x) : textR (a.take (i + 1)) = if okS a[i] then some (x ++ sayS a[i]) else none := by
  rw [List.take_succ_eq_append_getElem hi, textR_app, h]
  simp only [textR_cons, Option.bind_some]
  split
  · simp [textR]
  · rfl
theorem textR_stop {a : List Stp} {i : Nat} (hi : i < a.length) (h : okS a[i] = false) : textR a = none := by
  have e : a = a.take i ++ (a[i] :: a.drop (i + 1)) := by rw [← List.drop_eq_getElem_cons hi, List.take_append_drop]
  rw [e, textR_app, textR_cons, h]
  cases textR (a.take i) <;> simp
theorem nameI_some {k : Int} (h : nameI k ≠ []) : ∃ n : Nat, k = n ∧ n ≠ 0 ∧ n ≤ 11 := by
  unfold nameI at h
  refine ⟨k.toNat, ?_, ?_, ?_⟩
  · rcases Int.le_total 0 k with h0 | h0
    · omega
    · have : k.toNat = 0 := by omega
      rw [this] at h; exact absurd rfl h
  · intro e; rw [e] at h; exact absurd rfl h
  · apply Nat.le_of_not_lt
    intro hn
    apply h
    generalize k.toNat = n at hn
    unfold nameOf
    split <;> first | omega | rfl
theorem nameOf_le (n : Nat) : (nameOf n).length ≤ 7 := by
  unfold nameOf
  split <;> simp
theorem toldL_len {s : Stp} {n : Nat} (hk : s.kind = n) (h0 : n ≠ 0) (h : n ≤ 11) : (toldL s).length = arity n := by
  unfold toldL
  rw [List.length_map, hk, fieldsL_len h0 h]
theorem toldL_le (s : Stp) : (toldL s).length ≤ 3 := by unfold toldL; rw [List.length_map]; exact fieldsL_le _
theorem sayN_app (a b : List Int) : sayN (a ++ b) = sayN a ++ sayN b := by simp [sayN]
theorem sayN_one (x : Int) : sayN [x] = 32 :: Lib.itoa x := by simp [sayN]
theorem sayN_len {xs : List Int} (h : xs.all inR = true) : (sayN xs).length ≤ xs.length * 20 := by
  induction xs with
  | nil => simp [sayN]
  | cons x r ih =>
    rw [List.all_cons, Bool.and_eq_true] at h
    have h1 := ih h.2
    have h2 := h.1
    unfold inR at h2
    simp only [Bool.and_eq_true, decide_eq_true_eq] at h2
    have h3 := itoa_len h2.1 h2.2
    have : sayN (x :: r) = 32 :: Lib.itoa x ++ sayN r := by simp [sayN]
    rw [this]; simp; omega
theorem sayS_len {s : Stp} (h : (toldL s).all inR = true) : (sayS s).length ≤ 68 := by
  unfold sayS
  have h1 := sayN_len h
  have h2 := toldL_le s
  have h3 := nameOf_le s.kind.toNat
  simp only [List.length_append, List.length_singleton]
  unfold nameI
  omega
end Go.Sc
namespace Go.Proofs.YtocfaflghcgniaaDoor
open Go Go.T Go.Proofs Go.Sc Go.RowKit
set_option linter.unusedSimpArgs false
set_option linter.unusedVariables false
set_option maxRecDepth 10000
set_option maxHeartbeats 4000000
def textV (o : Option Bs) : AV := .tup [strV (o.getD []), .int .i64 (if o.isSome then 0 else 1)]
theorem stpC_kind (s : Stp) : (stpC s).getD 0 .undef = .int .i64 s.kind := rfl
theorem cellsEq_stp (a b : Stp) : cellsEq (stpC a) (stpC b) = some (decide (a = b)) := by
  obtain ⟨a1, a2, a3, a4, a5⟩ := a
  obtain ⟨b1, b2, b3, b4, b5⟩ := b
  simp only [stpC, cellsEq, if_true, Option.map_some, Option.some.injEq, Stp.mk.injEq]
  rw [Bool.eq_iff_iff]
  simp
end Go.Proofs.YtocfaflghcgniaaDoor
/- script.Text. -/
namespace Go.Sc
def clearL : List Int → Stp → Stp
  | [], s => s
  | f :: fs, s => clearL fs (setF s f 0)
theorem clearL_app : ∀ (a : List Int) (f : Int) (s : Stp), clearL (a ++ [f]) s = setF (clearL a s) f 0 := by
  intro a
  induction a with
  | nil => intro f s; rfl
  | cons x r ih => intro f s; simp only [List.cons_append, clearL, ih]
/-- What is left of a step when its first j fields are told. -/
def restAt (s : Stp) (j : Nat) : Stp := clearL ((fieldsL s.kind).take j) { s with kind := 0 }
theorem restAt_next (s : Stp) {j : Nat} (h : j < (fieldsL s.kind).length) : restAt s (j + 1) = setF (restAt s j) (fieldsL s.kind)[j] 0 := by
  unfold restAt
  rw [List.take_succ_eq_append_getElem h, clearL_app]
theorem getF_rest {s : Stp} {n : Nat} (hk : s.kind = n) (h0 : n ≠ 0) (h11 : n ≤ 11) {j : Nat} (h : j < (fieldsL s.kind).length) : getF (restAt s j) (fieldsL s.kind)[j] = getF s (fieldsL s.kind)[j] := by
  obtain ⟨k, a, b, c, d⟩ := s
  simp only at hk
  subst hk
  have hl := fieldsL_le (n : Int)
  simp only at h
  have hj : j = 0 ∨ j = 1 ∨ j = 2 := by omega
  rcases kinds h0 h11 with rfl | rfl | rfl | rfl | rfl | rfl | rfl | rfl | rfl | rfl | rfl <;> rcases hj with rfl | rfl | rfl <;> first | rfl | (exfalso; revert h; decide)
theorem rest_zero {s : Stp} {n : Nat} (hk : s.kind = n) (h0 : n ≠ 0) (h11 : n ≤ 11) : restAt s (fieldsL s.kind).length = ⟨0, 0, 0, 0, 0⟩ ↔ made n (toldL s) = s := by
  obtain ⟨k, a, b, c, d⟩ := s
  simp only at hk
  subst hk
  rcases kinds h0 h11 with rfl | rfl | rfl | rfl | rfl | rfl | rfl | rfl | rfl | rfl | rfl
  · show (⟨0, 0, 0, c, d⟩ : Stp) = ⟨0, 0, 0, 0, 0⟩ ↔ (⟨1, a, b, 0, 0⟩ : Stp) = ⟨1, a, b, c, d⟩
    simp [eq_comm]
  · show (⟨0, 0, 0, c, d⟩ : Stp) = ⟨0, 0, 0, 0, 0⟩ ↔ (⟨2, a, b, 0, 0⟩ : Stp) = ⟨2, a, b, c, d⟩
    simp [eq_comm]
  · show (⟨0, 0, 0, c, d⟩ : Stp) = ⟨0, 0, 0, 0, 0⟩ ↔ (⟨3, a, b, 0, 0⟩ : Stp) = ⟨3, a, b, c, d⟩
    simp [eq_comm]
  · show (⟨0, 0, b, c, d⟩ : Stp) = ⟨0, 0, 0, 0, 0⟩ ↔ (⟨4, a, 0, 0, 0⟩ : Stp) = ⟨4, a, b, c, d⟩
    simp [eq_comm]
  · show (⟨0, a, b, 0, d⟩ : Stp) = ⟨0, 0, 0, 0, 0⟩ ↔ (⟨5, 0, 0, c, 0⟩ : Stp) = ⟨5, a, b, c, d⟩
    simp [eq_comm]
  · show (⟨0, a, b, 0, d⟩ : Stp) = ⟨0, 0, 0, 0, 0⟩ ↔ (⟨6, 0, 0, c, 0⟩ : Stp) = ⟨6, a, b, c, d⟩
    simp [eq_comm]
  · show (⟨0, a, b, 0, d⟩ : Stp) = ⟨0, 0, 0, 0, 0⟩ ↔ (⟨7, 0, 0, c, 0⟩ : Stp) = ⟨7, a, b, c, d⟩
    simp [eq_comm]
  · show (⟨0, 0, b, c, d⟩ : Stp) = ⟨0, 0, 0, 0, 0⟩ ↔ (⟨8, a, 0, 0, 0⟩ : Stp) = ⟨8, a, b, c, d⟩
    simp [eq_comm]
  · show (⟨0, 0, b, 0, 0⟩ : Stp) = ⟨0, 0, 0, 0, 0⟩ ↔ (⟨9, a, 0, c, d⟩ : Stp) = ⟨9, a, b, c, d⟩
    simp [eq_comm]
  · show (⟨0, 0, b, c, 0⟩ : Stp) = ⟨0, 0, 0, 0, 0⟩ ↔ (⟨10, a, 0, 0, d⟩ : Stp) = ⟨10, a, b, c, d⟩
    simp [eq_comm]
  · show (⟨0, 0, b, c, d⟩ : Stp) = ⟨0, 0, 0, 0, 0⟩ ↔ (⟨11, a, 0, 0, 0⟩ : Stp) = ⟨11, a, b, c, d⟩
    simp [eq_comm]
theorem rest_zero_start (s : Stp) : restAt s 0 = { s with kind := 0 } := rfl
end Go.Sc
namespace Go.Proofs.YtocfaflghcgniaaDoor
open Go Go.T Go.Proofs Go.Sc Go.RowKit
set_option linter.unusedSimpArgs false
set_option linter.unusedVariables false
set_option maxRecDepth 10000
set_option maxHeartbeats 4000000
theorem stpC_get (s : Stp) (f : Int) : (stpC s).getD (fidx f) .undef = .int .i64 (getF s f) := by
  unfold fidx getF
  by_cases h0 : f = 0
  · simp [h0, stpC]
  by_cases h1 : f = 1
  · simp [h0, h1, stpC]
  by_cases h2 : f = 2 <;> simp [h0, h1, h2, stpC]
theorem cellsEq_zero (a : Stp) : cellsEq (stpC a) [.int .i64 0, .int .i64 0, .int .i64 0, .int .i64 0, .int .i64 0] = some (decide (a = ⟨0, 0, 0, 0, 0⟩)) := cellsEq_stp a ⟨0, 0, 0, 0, 0⟩
theorem stpC_k0 (s : Stp) : (stpC s).set 0 (.int .i64 0) = stpC { s with kind := 0 } := rfl
theorem SbAt.old {q h h' : Hp} {V : Lab} {bs : Bs} (g : SbAt q h V bs) (k : ∀ N, h.con N ≠ .none → h'.con N = h.con N) : SbAt q h' V bs := by
  obtain ⟨hq, ⟨rfl, hV⟩ | ⟨M, hne, hV, hM, hqM, hMf⟩⟩ := g
  · exact ⟨hq, .inl ⟨rfl, by rw [k V (by rw [hV]; simp), hV]⟩⟩
  · exact ⟨hq, .inr ⟨M, hne, by rw [k V (by rw [hV]; simp), hV], by rw [k M (by rw [hM]; simp), hM], hqM, hMf⟩⟩
theorem alloc_old {h : Hp} {f s : Nat} {c : Con} : ∀ N, h.con N ≠ .none → (h.alloc f s c).con N = h.con N := fun N hN => by
  have : N ≠ ⟨f, s, h.cnt f s⟩ := fun e => hN (by rw [e]; exact h.ok _ (by simp))
  simp [Hp.alloc, this]
/-- A variable of Text's is written: the builder stays. -/
theorem SbAt.put {q h : Hp} {V L : Lab} {bs : Bs} (g : SbAt q h V bs) (c : Con) (h1 : L ≠ V) (h2 : L.f = 13) : SbAt q (h.set L c) V bs := by
  obtain ⟨hq, ⟨rfl, hV⟩ | ⟨M, hne, hV, hM, hqM, hMf⟩⟩ := g
  · exact ⟨hq, .inl ⟨rfl, by simp [Hp.set, h1.symm, hV]⟩⟩
  · have : M ≠ L := fun e => by rw [e, h2] at hMf; rcases hMf with h3 | h3 <;> simp at h3
    exact ⟨hq, .inr ⟨M, hne, by simp [Hp.set, h1.symm, hV], by simp [Hp.set, this, hM], hqM, hMf⟩⟩
def T13 : Nat → List Tg := fun id => if id = 9 then [.pure] else []

theorem Text_at (ss : List Stp) (ex : Bool) (hl : ss.length ≤ 8192) (h : Hp) (hp : h.con powL = powC) : CallK Tryd.prog 13 [.l ex 5 (ss.map encP)] h (fun r H => r = textV (textR ss) ∧ H = h) := by
  refine PureAt.of_awp mixed T13 (fn := Tryd.f13) (by kernel_rfl) rfl (by kernel_rfl) (by show 1 ≤ _; decide) (by simp [AV.lf, AV.lfs, textV, strV_lf]) ?_
  repeat' first
    | (with_reducible refine CondX.dec (fun c => ?_) (fun c => ?_)) <;> try (exfalso; omega)
    | (with_reducible refine CondX.beq (fun c => ?_) (fun c => ?_)) <;> try (exfalso; omega)
    | (with_reducible refine CondX.bne (fun c => ?_) (fun c => ?_)) <;> try (exfalso; omega)
    | (with_reducible refine CondX.bool (fun c => ?_) (fun c => ?_)) <;> try (exfalso; omega)
    | simp only [go_sem, I_eq, I_cells, T13, List.length_map, Nat.reduceAdd, Nat.reduceBEq, Nat.reduceEqDiff, Nat.reduceLeDiff, Nat.reduceLT, Nat.reduceSub]
    | simp (disch := omega) only [wrap_in, toNat_succ, toNat_pred, Int.toNat_natCast]
    | with_reducible refine And.intro (by omega) ?_
    | with_reducible refine exI (by omega) ?_
    | fail
  refine awp_countF [(2, 3), (6, 7), (9, 10), (13, 64)] (by kernel_rfl) 13 12 (by kernel_rfl) ss.length (by omega) (fun i s => ∃ said, textR (ss.take i) = some said ∧ SbAt h s.hp ⟨13, 4, h.cnt 13 4⟩ said ∧ Keeps h s.hp ∧ said.length ≤ i * 68) ?_ ?_ ?_ ?_ ?_
  · simp only [go_sem, I_eq, I_cells, T13, Nat.reduceAdd, Nat.reduceBEq, Nat.reduceEqDiff, Nat.reduceLeDiff, Nat.reduceLT, Nat.reduceSub]
  · simp only [go_sem, I_eq, I_cells, T13, Nat.reduceAdd, Nat.reduceBEq, Nat.reduceEqDiff, Nat.reduceLeDiff, Nat.reduceLT, Nat.reduceSub]
  · simp only [go_sem, I_eq, I_cells, T13, Nat.reduceAdd, Nat.reduceBEq, Nat.reduceEqDiff, Nat.reduceLeDiff, Nat.reduceLT, Nat.reduceSub]
    exact ⟨[], rfl, ⟨h.ok _ (by simp), .inl ⟨rfl, by simp only [go_sem, I_eq, I_cells, Nat.reduceAdd, Nat.reduceBEq, Nat.reduceEqDiff, Nat.reduceLeDiff, Nat.reduceLT, Nat.reduceSub]⟩⟩, (Keeps.refl _).alloc _ _ _, by simp⟩
  · rintro i s hlt d2 hw fr g13 g12 ⟨said, hx, gb, gk, hsl⟩
    obtain ⟨st, hst⟩ : ∃ st, ss[i] = st := ⟨_, rfl⟩
    have hnx := textR_next hlt hx
    have hstop : okS st = false → textR ss = none := fun e => textR_stop hlt (by rw [hst]; exact e)
    rw [hst] at hnx
    repeat' first
      | (with_reducible refine CondX.dec (fun c => ?_) (fun c => ?_)) <;> try (exfalso; omega)
      | (with_reducible refine CondX.beq (fun c => ?_) (fun c => ?_)) <;> try (exfalso; omega)
      | (with_reducible refine CondX.bne (fun c => ?_) (fun c => ?_)) <;> try (exfalso; omega)
      | (with_reducible refine CondX.bool (fun c => ?_) (fun c => ?_)) <;> try (exfalso; omega)
      | ((with_reducible refine CallX.id ?_); first | refine CallX.pure (words_spec) ?_)
      | ((with_reducible refine PureX.id ?_); first | refine PureX.of (words_spec) ?_)
      | simp only [go_sem, I_eq, I_cells, T13, fr.at, g13, g12, d2, hw, List.getElem_map, hst, encP_cells, encP_eq, stpC_kind, stpC_len, stpC_all, stpC_take, stpC_zover, Nat.reduceAdd, Nat.reduceBEq, Nat.reduceEqDiff, Nat.reduceLeDiff, Nat.reduceLT, Nat.reduceSub]
      | simp (disch := omega) only [wrap_in, toNat_succ, toNat_pred, Int.toNat_natCast]
      | with_reducible refine And.intro (by omega) ?_
      | with_reducible refine exI (by omega) ?_
      | fail
    · have hk : okS st = false := by
        unfold okS
        have : nameI st.kind = [] := by
          apply Classical.byContradiction
          intro e
          obtain ⟨n, h1, h2, h3⟩ := nameI_some e
          omega
        rw [this]; rfl
      rw [hstop hk]
      exact ⟨rfl, gk.alloc _ _ _⟩
    · have hk : okS st = false := by
        unfold okS
        have : nameI st.kind = [] := by
          apply Classical.byContradiction
          intro e
          obtain ⟨n, h1, h2, h3⟩ := nameI_some e
          omega
        rw [this]; rfl
      rw [hstop hk]
      exact ⟨rfl, gk.alloc _ _ _⟩
    · obtain ⟨n, hkn, hn0, hn11⟩ : ∃ n : Nat, st.kind = n ∧ n ≠ 0 ∧ n ≤ 11 := ⟨st.kind.toNat, by omega, by omega, by omega⟩
      have hnml : names.length = 11 := rfl
      have hnm1 : names[(st.kind - 1).toNat]'(by omega) = nameI st.kind := by
        have h1 := names_at (m := n) (by omega) hn11
        have h2 : (st.kind - 1).toNat = n - 1 := by omega
        have h3 : nameI st.kind = nameOf n := by unfold nameI; rw [hkn, Int.toNat_natCast]
        rw [h3]
        rw [List.getElem?_eq_getElem (by omega)] at h1
        injection h1 with h1
        rw [← h1]; congr 1
      refine ⟨by rw [hnml]; omega, ?_⟩
      rw [hnm1]
      have hnmne : nameI st.kind ≠ [] := by
        unfold nameI
        rw [hkn, Int.toNat_natCast]
        rcases kinds hn0 hn11 with rfl | rfl | rfl | rfl | rfl | rfl | rfl | rfl | rfl | rfl | rfl <;> simp [nameOf]
      have hnl := nameOf_le st.kind.toNat
      rw [show nameOf st.kind.toNat = nameI st.kind from rfl] at hnl
      obtain ⟨nm, hnm⟩ : ∃ nm, nameI st.kind = nm := ⟨_, rfl⟩
      rw [hnm] at hnl hnmne ⊢
      have htl := toldL_len hkn hn0 hn11
      have hfl := fieldsL_le st.kind
      obtain ⟨fs, hfs⟩ : ∃ fs, fieldsL st.kind = fs := ⟨_, rfl⟩
      have hts : toldL st = fs.map (getF st) := by unfold toldL; rw [hfs]
      have hrn := fun j hj => restAt_next st (j := j) hj
      have hgr := fun j hj => getF_rest hkn hn0 hn11 (j := j) hj
      have hrz := rest_zero hkn hn0 hn11
      rw [hfs] at hfl hrz
      simp only [hfs] at hrn hgr
      rw [stpC_k0, ← rest_zero_start]
      obtain ⟨H1, hH1⟩ : ∃ H1, (s.hp.alloc 13 6 (.blk (stpC st))).alloc 13 7 (.blk (stpC (restAt st 0))) = H1 := ⟨_, rfl⟩
      have gk1 : Keeps h H1 := by rw [← hH1]; exact (gk.alloc _ _ _).alloc _ _ _
      have gb1 : SbAt h H1 ⟨13, 4, h.cnt 13 4⟩ said := by rw [← hH1]; exact (gb.old alloc_old).old alloc_old
      have k6 : H1.con ⟨13, 6, s.hp.cnt 13 6⟩ = .blk (stpC st) := by rw [← hH1]; simp only [go_sem, I_eq, I_cells, Nat.reduceAdd, Nat.reduceBEq, Nat.reduceEqDiff, Nat.reduceLeDiff, Nat.reduceLT, Nat.reduceSub]
      have k7 : H1.con ⟨13, 7, s.hp.cnt 13 7⟩ = .blk (stpC (restAt st 0)) := by rw [← hH1]; simp only [go_sem, I_eq, I_cells, Nat.reduceAdd, Nat.reduceBEq, Nat.reduceEqDiff, Nat.reduceLeDiff, Nat.reduceLT, Nat.reduceSub]
      rw [hH1]
      refine CallX.of ((WriteString_spec h H1 _ said nm gk1 gb1 hnmne (by omega)).mono ?_)
      rintro r H2 ⟨gb2, gk2, old2⟩
      have q6 : H2.con ⟨13, 6, s.hp.cnt 13 6⟩ = .blk (stpC st) := by rw [old2 _ (by simp) (by simp) (by simp) (by rw [k6]; simp), k6]
      have q7 : H2.con ⟨13, 7, s.hp.cnt 13 7⟩ = .blk (stpC (restAt st 0)) := by rw [old2 _ (by simp) (by simp) (by simp) (by rw [k7]; simp), k7]
      clear k6 k7 gk1 gb1 old2 hH1
      repeat' first
        | (with_reducible refine CondX.dec (fun c => ?_) (fun c => ?_)) <;> try (exfalso; omega)
        | (with_reducible refine CondX.beq (fun c => ?_) (fun c => ?_)) <;> try (exfalso; omega)
        | (with_reducible refine CondX.bne (fun c => ?_) (fun c => ?_)) <;> try (exfalso; omega)
        | (with_reducible refine CondX.bool (fun c => ?_) (fun c => ?_)) <;> try (exfalso; omega)
        | ((with_reducible refine CallX.id ?_); first | refine CallX.pure (fields_spec _) ?_)
        | simp only [go_sem, I_eq, I_cells, T13, fr.at, q6, q7, stpC_kind, hfs, stpC_len, Nat.reduceAdd, Nat.reduceBEq, Nat.reduceEqDiff, Nat.reduceLeDiff, Nat.reduceLT, Nat.reduceSub]
        | simp (disch := omega) only [wrap_in, toNat_succ, toNat_pred, Int.toNat_natCast]
        | with_reducible refine And.intro (by omega) ?_
        | with_reducible refine exI (by omega) ?_
        | fail
      refine awp_countF [(2, 3), (9, 10), (38, 59)] (by kernel_rfl) 38 37 (by kernel_rfl) fs.length (by omega) (fun j u => SbAt h u.hp ⟨13, 4, h.cnt 13 4⟩ (said ++ nm ++ sayN ((fs.take j).map (getF st))) ∧ Keeps h u.hp ∧ u.hp.con ⟨13, 6, s.hp.cnt 13 6⟩ = .blk (stpC st) ∧ u.hp.con ⟨13, 7, s.hp.cnt 13 7⟩ = .blk (stpC (restAt st j)) ∧ ((fs.take j).map (getF st)).all inR = true) ?_ ?_ ?_ ?_ ?_
      · simp only [go_sem, I_eq, I_cells, List.length_map, Nat.reduceAdd, Nat.reduceBEq, Nat.reduceEqDiff, Nat.reduceLeDiff, Nat.reduceLT, Nat.reduceSub]
      · simp only [go_sem, I_eq, I_cells, List.length_map, Nat.reduceAdd, Nat.reduceBEq, Nat.reduceEqDiff, Nat.reduceLeDiff, Nat.reduceLT, Nat.reduceSub]
      · simp only [go_sem, I_eq, I_cells, Nat.reduceAdd, Nat.reduceBEq, Nat.reduceEqDiff, Nat.reduceLeDiff, Nat.reduceLT, Nat.reduceSub]
        refine ⟨?_, gk2, q6, q7⟩
        simpa [sayN] using gb2
      · clear gb2 gk2 q6 q7
        rintro j u hjl d3 hw3 fr2 g38 g37 ⟨gb2, gk2, q6, q7, hal⟩
        have hsn := sayN_len hal
        rw [List.length_map, List.length_take] at hsn
        have htk : (fs.take (j + 1)).map (getF st) = (fs.take j).map (getF st) ++ [getF st fs[j]] := by rw [List.take_succ_eq_append_getElem hjl, List.map_append]; rfl
        have hfi := fidx_le fs[j]
        have hbad : inR (getF st fs[j]) = false → okS st = false := fun e => by
          unfold okS
          have : (toldL st).all inR = false := List.all_eq_false.2 ⟨getF st fs[j], by rw [hts]; exact List.mem_map_of_mem (List.getElem_mem hjl), by rw [e]; simp⟩
          rw [this]; simp
        have hg := hgr j hjl
        have hr := hrn j hjl
        have hpow : u.hp.con powL = powC := gk2.cons hp (by simp [powC])
        repeat' first
          | (with_reducible refine CondX.dec (fun c => ?_) (fun c => ?_)) <;> try (exfalso; omega)
          | (with_reducible refine CondX.beq (fun c => ?_) (fun c => ?_)) <;> try (exfalso; omega)
          | (with_reducible refine CondX.bne (fun c => ?_) (fun c => ?_)) <;> try (exfalso; omega)
          | (with_reducible refine CondX.bool (fun c => ?_) (fun c => ?_)) <;> try (exfalso; omega)
          | ((with_reducible refine CallX.id ?_); first | refine CallX.at (at_spec _ _ _) ?_)
          | simp only [go_sem, I_eq, I_cells, T13, fr2.at, fr.at, g38, g37, d3, hw3, q6, q7, List.getElem_map, I_cells, stpC_get, stpC_len, hg, Nat.reduceAdd, Nat.reduceBEq, Nat.reduceEqDiff, Nat.reduceLeDiff, Nat.reduceLT, Nat.reduceSub]
          | simp (disch := omega) only [wrap_in, toNat_succ, toNat_pred, Int.toNat_natCast]
          | with_reducible refine And.intro (by omega) ?_
          | with_reducible refine exI (by omega) ?_
          | fail
        · rw [hstop (hbad (by unfold inR; rw [Bool.and_eq_false_iff]; left; exact decide_eq_false (by omega)))]
          exact ⟨rfl, gk2⟩
        · rw [hstop (hbad (by unfold inR; rw [Bool.and_eq_false_iff]; right; exact decide_eq_false (by omega)))]
          exact ⟨rfl, gk2⟩
        · rename_i c1
          have hin : inR (getF st fs[j]) = true := by unfold inR; rw [Bool.and_eq_true]; exact ⟨decide_eq_true (by omega), decide_eq_true (by omega)⟩
          have hil := itoa_len (x := getF st fs[j]) (by omega) (by omega)
          refine CallX.at (Itoa_at _ (by omega) (by omega) _ hpow) ?_
          repeat' first
            | (with_reducible refine CondX.dec (fun c => ?_) (fun c => ?_)) <;> try (exfalso; omega)
            | (with_reducible refine CondX.beq (fun c => ?_) (fun c => ?_)) <;> try (exfalso; omega)
            | (with_reducible refine CondX.bne (fun c => ?_) (fun c => ?_)) <;> try (exfalso; omega)
            | (with_reducible refine CondX.bool (fun c => ?_) (fun c => ?_)) <;> try (exfalso; omega)
            | simp only [go_sem, I_eq, I_cells, T13, fr2.at, fr.at, Nat.reduceAdd, Nat.reduceBEq, Nat.reduceEqDiff, Nat.reduceLeDiff, Nat.reduceLT, Nat.reduceSub]
            | simp (disch := omega) only [wrap_in, toNat_succ, toNat_pred, Int.toNat_natCast]
            | with_reducible refine And.intro (by omega) ?_
            | with_reducible refine exI (by omega) ?_
            | fail
          refine CallX.of ((WriteString_spec h u.hp _ _ ([32] ++ Lib.itoa (getF st fs[j])) gk2 gb2 (by simp) (by simp only [List.length_append, List.length_singleton]; omega)).mono ?_)
          rintro r H2 ⟨gb3, gk3, old3⟩
          have d6 : H2.con ⟨13, 6, s.hp.cnt 13 6⟩ = .blk (stpC st) := by rw [old3 _ (by simp) (by simp) (by simp) (by rw [q6]; simp), q6]
          have d7 : H2.con ⟨13, 7, s.hp.cnt 13 7⟩ = .blk (stpC (restAt st j)) := by rw [old3 _ (by simp) (by simp) (by simp) (by rw [q7]; simp), q7]
          repeat' first
            | (with_reducible refine CondX.dec (fun c => ?_) (fun c => ?_)) <;> try (exfalso; omega)
            | (with_reducible refine CondX.beq (fun c => ?_) (fun c => ?_)) <;> try (exfalso; omega)
            | (with_reducible refine CondX.bne (fun c => ?_) (fun c => ?_)) <;> try (exfalso; omega)
            | (with_reducible refine CondX.bool (fun c => ?_) (fun c => ?_)) <;> try (exfalso; omega)
            | ((with_reducible refine CallX.id ?_); first | refine CallX.at (at_spec _ _ _) ?_)
            | simp only [go_sem, I_eq, I_cells, T13, fr2.at, fr.at, d6, d7, hw3, g38, g37, stpC_len, Nat.reduceAdd, Nat.reduceBEq, Nat.reduceEqDiff, Nat.reduceLeDiff, Nat.reduceLT, Nat.reduceSub]
            | simp (disch := omega) only [wrap_in, toNat_succ, toNat_pred, Int.toNat_natCast]
            | with_reducible refine And.intro (by omega) ?_
            | with_reducible refine exI (by omega) ?_
            | fail
          rw [stpC_set, ← hr, htk, sayN_app, sayN_one, List.all_append, hal]
          refine ⟨?_, gk3.set (gk.new _ _) _, rfl, by simp [hin]⟩
          rw [← List.append_assoc]
          exact gb3.put _ (by simp) rfl
      · clear gb2 gk2 q6 q7
        rintro u d3 fr2 g38 g37 ⟨gb2, gk2, q6, q7, hal⟩
        rw [List.take_length, ← hts] at gb2 hal
        have hsn := sayN_len hal
        repeat' first
          | (with_reducible refine CondX.dec (fun c => ?_) (fun c => ?_)) <;> try (exfalso; omega)
          | (with_reducible refine CondX.beq (fun c => ?_) (fun c => ?_)) <;> try (exfalso; omega)
          | (with_reducible refine CondX.bne (fun c => ?_) (fun c => ?_)) <;> try (exfalso; omega)
          | (with_reducible refine CondX.bool (fun c => ?_) (fun c => ?_)) <;> try (exfalso; omega)
          | simp only [go_sem, I_eq, I_cells, T13, fr2.at, fr.at, g13, hw, g38, g37, d3, q6, q7, stpC_len, stpC_take, encP_eq, cellsEq_zero, Nat.reduceAdd, Nat.reduceBEq, Nat.reduceEqDiff, Nat.reduceLeDiff, Nat.reduceLT, Nat.reduceSub]
          | simp (disch := omega) only [wrap_in, toNat_succ, toNat_pred, Int.toNat_natCast]
          | with_reducible refine And.intro (by omega) ?_
          | with_reducible refine exI (by omega) ?_
          | fail
        · have hmd := hrz.1 c
          have hok : okS st = true := by
            unfold okS
            rw [hnm, hal, hkn, Int.toNat_natCast, decide_eq_true hmd]
            have : nm.isEmpty = false := by rw [List.isEmpty_eq_false_iff]; exact hnmne
            rw [this]; rfl
          rw [if_pos hok] at hnx
          have hss : sayS st = nm ++ sayN (toldL st) ++ [10] := by unfold sayS; rw [hnm]
          have hlen := sayS_len (s := st) hal
          rw [hss, List.length_append, List.length_append, List.length_singleton] at hlen
          have hne : said ++ nm ++ sayN (toldL st) ≠ [] := by simp [hnmne]
          refine CallX.of ((WriteByte_spec h u.hp _ _ 10 10 rfl gk2 gb2 hne (by simp only [List.length_append]; omega)).mono ?_)
          rintro r H3 ⟨gb3, gk3, _⟩
          repeat' first
            | (with_reducible refine CondX.dec (fun c => ?_) (fun c => ?_)) <;> try (exfalso; omega)
            | (with_reducible refine CondX.beq (fun c => ?_) (fun c => ?_)) <;> try (exfalso; omega)
            | (with_reducible refine CondX.bne (fun c => ?_) (fun c => ?_)) <;> try (exfalso; omega)
            | (with_reducible refine CondX.bool (fun c => ?_) (fun c => ?_)) <;> try (exfalso; omega)
            | simp only [go_sem, I_eq, I_cells, T13, fr2.at, fr.at, g13, hw, Nat.reduceAdd, Nat.reduceBEq, Nat.reduceEqDiff, Nat.reduceLeDiff, Nat.reduceLT, Nat.reduceSub]
            | simp (disch := omega) only [wrap_in, toNat_succ, toNat_pred, Int.toNat_natCast]
            | with_reducible refine And.intro (by omega) ?_
            | with_reducible refine exI (by omega) ?_
            | fail
          refine ⟨said ++ sayS st, hnx, ?_, gk3, ?_⟩
          · rw [hss, ← List.append_assoc, ← List.append_assoc]; exact gb3
          · rw [hss]; simp only [List.length_append, List.length_singleton]; omega
        · have hok : okS st = false := by
            unfold okS
            rw [hkn, Int.toNat_natCast, decide_eq_false (fun e => c (hrz.2 e)), Bool.and_false]
          rw [hstop hok]
          exact ⟨rfl, gk2⟩
  · rintro s d2 fr g13 g12 ⟨said, hx, gb, gk, hsl⟩
    rw [List.take_length] at hx
    repeat' first
      | (with_reducible refine CondX.dec (fun c => ?_) (fun c => ?_)) <;> try (exfalso; omega)
      | (with_reducible refine CondX.beq (fun c => ?_) (fun c => ?_)) <;> try (exfalso; omega)
      | (with_reducible refine CondX.bne (fun c => ?_) (fun c => ?_)) <;> try (exfalso; omega)
      | (with_reducible refine CondX.bool (fun c => ?_) (fun c => ?_)) <;> try (exfalso; omega)
      | simp only [go_sem, I_eq, I_cells, T13, fr.at, g13, g12, d2, Nat.reduceAdd, Nat.reduceBEq, Nat.reduceEqDiff, Nat.reduceLeDiff, Nat.reduceLT, Nat.reduceSub]
      | simp (disch := omega) only [wrap_in, toNat_succ, toNat_pred, Int.toNat_natCast]
      | with_reducible refine And.intro (by omega) ?_
      | with_reducible refine exI (by omega) ?_
      | fail
    refine CallX.of ((String_spec h _ _ said gk gb).mono ?_)
    rintro r H ⟨rfl, gk2⟩
    repeat' first
      | (with_reducible refine CondX.dec (fun c => ?_) (fun c => ?_)) <;> try (exfalso; omega)
      | (with_reducible refine CondX.beq (fun c => ?_) (fun c => ?_)) <;> try (exfalso; omega)
      | (with_reducible refine CondX.bne (fun c => ?_) (fun c => ?_)) <;> try (exfalso; omega)
      | (with_reducible refine CondX.bool (fun c => ?_) (fun c => ?_)) <;> try (exfalso; omega)
      | simp only [go_sem, I_eq, I_cells, Nat.reduceAdd, Nat.reduceBEq, Nat.reduceEqDiff, Nat.reduceLeDiff, Nat.reduceLT, Nat.reduceSub]
      | simp (disch := omega) only [wrap_in, toNat_succ, toNat_pred, Int.toNat_natCast]
      | with_reducible refine And.intro (by omega) ?_
      | with_reducible refine exI (by omega) ?_
      | fail
    rw [hx]
    exact ⟨rfl, gk2⟩
end Go.Proofs.YtocfaflghcgniaaDoor
/- fletchlaw21: sameSteps and wakes. -/
namespace Go.Proofs.YtocfaflghcgniaaDoor
open Go Go.T Go.Proofs Go.Sc Go.RowKit
set_option linter.unusedSimpArgs false
set_option linter.unusedVariables false
set_option maxRecDepth 10000
set_option maxHeartbeats 4000000
def T12 : Nat → List Tg := fun id => []
theorem same_spec (a b : List Stp) (ex ex' : Bool) (ha : a.length < 2 ^ 60) (hb : b.length < 2 ^ 60) : PureF Tryd.prog 12 [.l ex 5 (a.map encP), .l ex' 5 (b.map encP)] (.bool (decide (a = b))) := by
  refine PureF.of_awp mixed T12 (fn := Tryd.f12) (by kernel_rfl) rfl (by kernel_rfl) (by show 2 ≤ _; decide) (by simp [AV.lf]) (fun h => ?_)
  repeat' first
    | (with_reducible refine CondX.dec (fun c => ?_) (fun c => ?_)) <;> try (exfalso; omega)
    | (with_reducible refine CondX.beq (fun c => ?_) (fun c => ?_)) <;> try (exfalso; omega)
    | (with_reducible refine CondX.bne (fun c => ?_) (fun c => ?_)) <;> try (exfalso; omega)
    | (with_reducible refine CondX.bool (fun c => ?_) (fun c => ?_)) <;> try (exfalso; omega)
    | simp only [go_sem, I_eq, I_cells, T12, List.length_map, Nat.reduceAdd, Nat.reduceBEq, Nat.reduceEqDiff, Nat.reduceLeDiff, Nat.reduceLT, Nat.reduceSub]
    | simp (disch := omega) only [wrap_in, toNat_succ, toNat_pred, Int.toNat_natCast]
    | with_reducible refine And.intro (by omega) ?_
    | with_reducible refine exI (by omega) ?_
    | fail
  · have : a ≠ b := fun e => c (by rw [e])
    rw [decide_eq_false this]
    exact ⟨rfl, Keeps.refl _⟩
  have hl : a.length = b.length := by omega
  refine awp_countF [(4, 5), (13, 25)] (by kernel_rfl) 13 12 (by kernel_rfl) a.length (by omega) (fun i s => a.take i = b.take i ∧ s.hp = h) ?_ ?_ ?_ ?_ ?_
  · simp only [go_sem, I_eq, I_cells, List.length_map, Nat.reduceAdd, Nat.reduceBEq, Nat.reduceEqDiff, Nat.reduceLeDiff, Nat.reduceLT, Nat.reduceSub]
  · simp only [go_sem, I_eq, I_cells, List.length_map, Nat.reduceAdd, Nat.reduceBEq, Nat.reduceEqDiff, Nat.reduceLeDiff, Nat.reduceLT, Nat.reduceSub]
  · simp only [go_sem, I_eq, I_cells, Nat.reduceAdd, Nat.reduceBEq, Nat.reduceEqDiff, Nat.reduceLeDiff, Nat.reduceLT, Nat.reduceSub]
  · rintro i s hlt d2 hw fr g13 g12 ⟨he, hH⟩
    have hlt2 : i < b.length := by omega
    repeat' first
      | (with_reducible refine CondX.dec (fun c => ?_) (fun c => ?_)) <;> try (exfalso; omega)
      | (with_reducible refine CondX.beq (fun c => ?_) (fun c => ?_)) <;> try (exfalso; omega)
      | (with_reducible refine CondX.bne (fun c => ?_) (fun c => ?_)) <;> try (exfalso; omega)
      | (with_reducible refine CondX.bool (fun c => ?_) (fun c => ?_)) <;> try (exfalso; omega)
      | simp only [go_sem, I_eq, I_cells, T12, fr.at, g13, g12, d2, hw, hH, List.getElem_map, encP_cells, encP_eq, stpC_len, stpC_take, cellsEq_stp, Nat.reduceAdd, Nat.reduceBEq, Nat.reduceEqDiff, Nat.reduceLeDiff, Nat.reduceLT, Nat.reduceSub]
      | simp (disch := omega) only [wrap_in, toNat_succ, toNat_pred, Int.toNat_natCast]
      | with_reducible refine And.intro (by omega) ?_
      | with_reducible refine exI (by omega) ?_
      | fail
    · rw [List.take_succ_eq_append_getElem hlt, List.take_succ_eq_append_getElem hlt2, he, c]
    · have : a ≠ b := fun e => c (by subst e; rfl)
      rw [decide_eq_false this]
      exact ⟨rfl, Keeps.refl _⟩
  · rintro s d2 fr g13 g12 ⟨he, hH⟩
    rw [List.take_length, hl, List.take_length] at he
    repeat' first
      | (with_reducible refine CondX.dec (fun c => ?_) (fun c => ?_)) <;> try (exfalso; omega)
      | (with_reducible refine CondX.beq (fun c => ?_) (fun c => ?_)) <;> try (exfalso; omega)
      | (with_reducible refine CondX.bne (fun c => ?_) (fun c => ?_)) <;> try (exfalso; omega)
      | (with_reducible refine CondX.bool (fun c => ?_) (fun c => ?_)) <;> try (exfalso; omega)
      | simp only [go_sem, I_eq, I_cells, T12, fr.at, g13, g12, d2, hH, Nat.reduceAdd, Nat.reduceBEq, Nat.reduceEqDiff, Nat.reduceLeDiff, Nat.reduceLT, Nat.reduceSub]
      | simp (disch := omega) only [wrap_in, toNat_succ, toNat_pred, Int.toNat_natCast]
      | with_reducible refine And.intro (by omega) ?_
      | with_reducible refine exI (by omega) ?_
      | fail
    rw [decide_eq_true he]
    exact ⟨rfl, Keeps.refl _⟩
section
variable {h H : Hp} {v : AV} {a b : List Stp} {ex : Bool} {K : AV → Hp → Prop} {u : Tok K}
theorem same_ol (ga : Acc h H 5 v (a.map encP)) (ha : a.length < 2 ^ 60) (hb : b.length < 2 ^ 60) (hk : K (.bool (decide (a = b))) H) : CallX Tryd.prog 12 [v, .l ex 5 (b.map encP)] H K u := by
  obtain ⟨Ls, hLs⟩ := ga.lend
  have := hLs [] [.l ex 5 (b.map encP)] (by simp [AV.lfs]) (by simp [AV.lfs, AV.lf, P_lfs])
  exact CallX.of (CallK.lendL Ls (same_spec a b false ex ha hb) this (by simp [AV.sn]) hk)
theorem lend2 {h0 : Hp} {v' : AV} {sz : Nat} {xs ys : List AV} (g1 : Acc h H sz v xs) (g2 : Acc h0 H sz v' ys) (hx : AV.lfs xs = true) (hd : ∀ L, v = .os L → v' = .os L → False) : ∃ Ls, LeF (lendA Ls H [v, v']) [.l false sz xs, .l false sz ys] := by
  have l0 : Le (.l true 0 []) (.l false sz []) := Le.l0
  cases g1 with
  | nil =>
    cases g2 with
    | nil => exact ⟨[], .cons l0 (.cons l0 .nil)⟩
    | own L2 _ hc2 hn2 =>
      refine ⟨[L2], ?_⟩
      simp only [lendA, hc2, List.map_cons, List.map_nil, AV.frz, AV.frzs, if_true]
      exact .cons l0 (.cons (Le.refl _) .nil)
  | own L1 _ hc1 hn1 =>
    cases g2 with
    | nil =>
      refine ⟨[L1], ?_⟩
      simp only [lendA, hc1, List.map_cons, List.map_nil, AV.frz, AV.frzs, if_true]
      exact .cons (Le.refl _) (.cons l0 .nil)
    | own L2 _ hc2 hn2 =>
      have hne : L2 ≠ L1 := fun e => hd L1 rfl (by rw [e])
      refine ⟨[L1, L2], ?_⟩
      have hc2' : (H.set L1 .none).con L2 = .arr sz ys := by rw [set_con_ne hne, hc2]
      have hfz : AV.frz L2 (.arr sz ys) (.l false sz xs) = .l false sz xs := frz_lf _ _ _ (by simp [AV.lf, hx])
      simp only [lendA, hc1, hc2', List.map_cons, List.map_nil, AV.frz, if_true, hne, if_false] at hfz ⊢
      rw [hfz]
      exact .cons (Le.refl _) (.cons (Le.refl _) .nil)
theorem same_oo {h0 : Hp} {v' : AV} (ga : Acc h H 5 v (a.map encP)) (gb : Acc h0 H 5 v' (b.map encP)) (hd : ∀ L, v = .os L → v' = .os L → False) (ha : a.length < 2 ^ 60) (hb : b.length < 2 ^ 60) (hk : K (.bool (decide (a = b))) H) : CallX Tryd.prog 12 [v, v'] H K u := by
  obtain ⟨Ls, hLs⟩ := lend2 ga gb (P_lfs _) hd
  exact CallX.of (CallK.lendL Ls (same_spec a b false false ha hb) hLs (by simp [AV.sn]) hk)
end
theorem itoa_nat (n : Nat) : Lib.itoa (n : Int) = Lib.decDigits n := by unfold Lib.itoa; rw [if_neg (by omega), Int.toNat_natCast]
theorem dec_1 {u : Nat} (h : u < 10) : Lib.decDigits u = [UInt8.ofNat (48 + u)] := by rw [Lib.decDigits, dif_pos h]
theorem wakes_at (h : Hp) (hp : h.con powL = powC) : CallK Tryd.prog 9 [] h (fun r H => r = .bool true ∧ H = h) := by
  have e1 : parse 65536 4096 [97, 99, 113, 117, 105, 114, 101, 32, 48, 32, 49, 10, 32, 32, 10, 32, 97, 114, 109, 32, 32, 50, 32, 45, 49, 32, 57] = ([⟨1, 0, 1, 0, 0⟩, ⟨9, 2, 0, -1, 9⟩], 0, 0) := by kernel_rfl
  have e2 : textR [⟨10, 3, 0, 0, 2⟩] = some [111, 102, 102, 32, 51, 32, 50, 10] := by
    have h1 : okS ⟨10, 3, 0, 0, 2⟩ = true := by kernel_rfl
    have h2 : sayS ⟨10, 3, 0, 0, 2⟩ = [111, 102, 102, 32, 51, 32, 50, 10] := by
      have : toldL ⟨10, 3, 0, 0, 2⟩ = [3, 2] := by kernel_rfl
      unfold sayS
      rw [this]
      have i3 : Lib.itoa 3 = [51] := by rw [show (3 : Int) = ((3 : Nat) : Int) from rfl, itoa_nat, dec_1 (by omega)]; rfl
      have i2 : Lib.itoa 2 = [50] := by rw [show (2 : Int) = ((2 : Nat) : Int) from rfl, itoa_nat, dec_1 (by omega)]; rfl
      simp only [sayN, List.flatMap_cons, List.flatMap_nil, i3, i2]
      rfl
    rw [textR_cons, if_pos h1, h2]; rfl
  refine PureAt.of_awp mixed (fun _ => []) (fn := Tryd.f9) (by kernel_rfl) rfl (by kernel_rfl) (by show 0 ≤ _; decide) (by simp [AV.lf]) ?_
  repeat' first
    | (with_reducible refine CondX.dec (fun c => ?_) (fun c => ?_)) <;> try (exfalso; omega)
    | (with_reducible refine CondX.beq (fun c => ?_) (fun c => ?_)) <;> try (exfalso; omega)
    | (with_reducible refine CondX.bne (fun c => ?_) (fun c => ?_)) <;> try (exfalso; omega)
    | (with_reducible refine CondX.bool (fun c => ?_) (fun c => ?_)) <;> try (exfalso; omega)
    | simp only [go_sem, I_eq, I_cells, Nat.reduceAdd, Nat.reduceBEq, Nat.reduceEqDiff, Nat.reduceLeDiff, Nat.reduceLT, Nat.reduceSub]
    | simp (disch := omega) only [wrap_in, toNat_succ, toNat_pred, Int.toNat_natCast]
    | with_reducible refine And.intro (by omega) ?_
    | with_reducible refine exI (by omega) ?_
    | fail
  refine CallX.of ((Parse_spec _ h).mono ?_)
  rw [e1]
  rintro r H ⟨v, rfl, ga, gk⟩
  repeat' first
    | (with_reducible refine CondX.dec (fun c => ?_) (fun c => ?_)) <;> try (exfalso; omega)
    | (with_reducible refine CondX.beq (fun c => ?_) (fun c => ?_)) <;> try (exfalso; omega)
    | (with_reducible refine CondX.bne (fun c => ?_) (fun c => ?_)) <;> try (exfalso; omega)
    | (with_reducible refine CondX.bool (fun c => ?_) (fun c => ?_)) <;> try (exfalso; omega)
    | simp only [go_sem, I_eq, I_cells, Nat.reduceAdd, Nat.reduceBEq, Nat.reduceEqDiff, Nat.reduceLeDiff, Nat.reduceLT, Nat.reduceSub]
    | simp (disch := omega) only [wrap_in, toNat_succ, toNat_pred, Int.toNat_natCast]
    | with_reducible refine And.intro (by omega) ?_
    | with_reducible refine exI (by omega) ?_
    | fail
  have ht := Text_at [⟨10, 3, 0, 0, 2⟩] true (by decide) H (gk.cons hp (by simp [powC]))
  rw [e2] at ht
  refine CallX.at ht ?_
  repeat' first
    | (with_reducible refine CondX.dec (fun c => ?_) (fun c => ?_)) <;> try (exfalso; omega)
    | (with_reducible refine CondX.beq (fun c => ?_) (fun c => ?_)) <;> try (exfalso; omega)
    | (with_reducible refine CondX.bne (fun c => ?_) (fun c => ?_)) <;> try (exfalso; omega)
    | (with_reducible refine CondX.bool (fun c => ?_) (fun c => ?_)) <;> try (exfalso; omega)
    | simp only [go_sem, I_eq, I_cells, textV, Option.getD_some, Option.isSome_some, if_true, Nat.reduceAdd, Nat.reduceBEq, Nat.reduceEqDiff, Nat.reduceLeDiff, Nat.reduceLT, Nat.reduceSub]
    | simp (disch := omega) only [wrap_in, toNat_succ, toNat_pred, Int.toNat_natCast]
    | with_reducible refine And.intro (by omega) ?_
    | with_reducible refine exI (by omega) ?_
    | fail
  refine same_ol (a := [⟨1, 0, 1, 0, 0⟩, ⟨9, 2, 0, -1, 9⟩]) (b := [⟨1, 0, 1, 0, 0⟩, ⟨9, 2, 0, -1, 9⟩]) ga (by decide) (by decide) ?_
  rw [decide_eq_true rfl]
  repeat' first
    | (with_reducible refine CondX.dec (fun c => ?_) (fun c => ?_)) <;> try (exfalso; omega)
    | (with_reducible refine CondX.beq (fun c => ?_) (fun c => ?_)) <;> try (exfalso; omega)
    | (with_reducible refine CondX.bne (fun c => ?_) (fun c => ?_)) <;> try (exfalso; omega)
    | (with_reducible refine CondX.bool (fun c => ?_) (fun c => ?_)) <;> try (exfalso; omega)
    | simp only [go_sem, I_eq, I_cells, textV, Option.getD_some, Option.isSome_some, if_true, beq_self_eq_true, Nat.reduceAdd, Nat.reduceBEq, Nat.reduceEqDiff, Nat.reduceLeDiff, Nat.reduceLT, Nat.reduceSub]
    | simp (disch := omega) only [wrap_in, toNat_succ, toNat_pred, Int.toNat_natCast]
    | with_reducible refine And.intro (by omega) ?_
    | with_reducible refine exI (by omega) ?_
    | fail
  exact gk
end Go.Proofs.YtocfaflghcgniaaDoor
/- ScriptParses and ScriptTells. -/
namespace Go.Sc
theorem parseL_len (mx : Nat) : ∀ (ls : List Bs) (n : Nat) (out : List Stp), out.length ≤ mx → (parseL mx ls n out).1.length ≤ mx := by
  intro ls
  induction ls with
  | nil => intro n out h; exact h
  | cons l r ih =>
    intro n out h
    rw [parseL_cons]
    split
    · exact ih _ _ h
    · cases lineR (words l) with
      | none => simp
      | some s =>
        simp only
        split
        · simp
        · exact ih _ _ (by simp; omega)
theorem parse_len (a mx : Nat) (t : Bs) : (parse a mx t).1.length ≤ mx := by
  unfold parse
  split
  · simp
  · exact parseL_len _ _ _ _ (by simp)
end Go.Sc
namespace Go.Proofs.YtocfaflghcgniaaDoor
open Go Go.T Go.Proofs Go.Sc Go.RowKit
set_option linter.unusedSimpArgs false
set_option linter.unusedVariables false
set_option maxRecDepth 10000
set_option maxHeartbeats 4000000
end Go.Proofs.YtocfaflghcgniaaDoor
/- ScriptBack. -/
namespace Go.T
open Go
/-- Lent arguments to a call that is shown at the heap that is left. -/
theorem CallK.lendH {P : Program} {f : FuncId} {args args' : List AV} {h : Hp} {r : AV} {K : AV → Hp → Prop} (Ls : List Lab) (hp : CallK P f args' h.bare (fun r' H => r' = r ∧ H = h.bare)) (ha : LeF (lendA Ls h args) args') (hr : r.sn h) (hk : K r h) : CallK P f args h K := by
  refine CallK.lendG Ls (CallK.leArg ha.length (fun i hi => ?_) (hp.mono ?_))
  · have := ha.getD i
    have h1 : i < args'.length := ha.length ▸ hi
    rw [List.getD_eq_getElem?_getD, List.getD_eq_getElem?_getD, List.getElem?_eq_getElem hi, List.getElem?_eq_getElem h1] at this ⊢
    exact this
  · rintro r' H ⟨rfl, rfl⟩
    exact ⟨hr, fun L hL => by rw [h.bare.ok L hL]; trivial, fun hle => by rw [merge_bare]; exact hk⟩
theorem bare_gl {h : Hp} {L : Lab} {cs : List AV} (hc : h.con L = .gl cs) : h.bare.con L = .gl cs := by
  show (h.con L).bare = _
  rw [hc]; rfl
end Go.T
namespace Go.Proofs.YtocfaflghcgniaaDoor
open Go Go.T Go.Proofs Go.Sc Go.RowKit
set_option linter.unusedSimpArgs false
set_option linter.unusedVariables false
set_option maxRecDepth 10000
set_option maxHeartbeats 4000000
end Go.Proofs.YtocfaflghcgniaaDoor
