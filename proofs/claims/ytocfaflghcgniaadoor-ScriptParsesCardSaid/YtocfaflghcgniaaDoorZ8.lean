/- Part of a proof: what functions of the given program compute, and plain laws of it. -/
import Derived.Test.YtocfaflghcgniaaDoorZ7
import Derived.Test.YtocfaflghcgniaaDoorT3
import Derived.Test.YtocfaflghcgniaaDoorT4
/- script's small functions. -/
namespace Go.Proofs.YtocfaflghcgniaaDoor
open Go Go.T Go.Proofs Go.Sc Go.RowKit
set_option linter.unusedSimpArgs false
set_option linter.unusedVariables false
set_option maxRecDepth 10000
theorem I_lf (n : Int) : (I n).lf = true := by simp [I, AV.lf]
theorem I_lfs (l : List Int) : AV.lfs (l.map I) = true := lfs_map I I_lf l
theorem S_lfs (l : List Bs) : AV.lfs (l.map strV) = true := lfs_map strV (fun _ => strV_lf) l
theorem fields_spec (k : Int) : PureF Tryd.prog 20 [.int .i64 k] (.l true 1 ((fieldsL k).map I)) := by
  refine PureF.of_awp mixed (fun _ => []) (fn := Tryd.f20) (by kernel_rfl) rfl (by kernel_rfl) (by show 1 ≤ _; decide) (by simp [AV.lf, I_lfs]) (fun h => ?_)
  repeat' first
    | (with_reducible refine CondX.dec (fun c => ?_) (fun c => ?_)) <;> try (exfalso; omega)
    | (with_reducible refine CondX.beq (fun c => ?_) (fun c => ?_)) <;> try (exfalso; omega)
    | (with_reducible refine CondX.bne (fun c => ?_) (fun c => ?_)) <;> try (exfalso; omega)
    | (with_reducible refine CondX.bool (fun c => ?_) (fun c => ?_)) <;> try (exfalso; omega)
    | simp only [go_sem, I_eq, I_cells, Nat.reduceAdd, Nat.reduceBEq, Nat.reduceEqDiff, Nat.reduceLeDiff, Nat.reduceLT, Nat.reduceSub]
    | simp (disch := omega) only [wrap_in, toNat_succ, toNat_pred, Int.toNat_natCast]
    | with_reducible refine And.intro (by omega) ?_
    | with_reducible refine exI (by omega) ?_
    | fail
  all_goals exact ⟨by simp_all [fieldsL, I], Keeps.refl _⟩
theorem words_spec : PureF Tryd.prog 19 [] (.l true 1 (names.map strV)) := by
  refine PureF.of_awp mixed (fun _ => []) (fn := Tryd.f19) (by kernel_rfl) rfl (by kernel_rfl) (by show 0 ≤ _; decide) (by simp [AV.lf, S_lfs]) (fun h => ?_)
  repeat' first
    | (with_reducible refine CondX.dec (fun c => ?_) (fun c => ?_)) <;> try (exfalso; omega)
    | (with_reducible refine CondX.beq (fun c => ?_) (fun c => ?_)) <;> try (exfalso; omega)
    | (with_reducible refine CondX.bne (fun c => ?_) (fun c => ?_)) <;> try (exfalso; omega)
    | (with_reducible refine CondX.bool (fun c => ?_) (fun c => ?_)) <;> try (exfalso; omega)
    | simp only [go_sem, I_eq, I_cells, Nat.reduceAdd, Nat.reduceBEq, Nat.reduceEqDiff, Nat.reduceLeDiff, Nat.reduceLT, Nat.reduceSub]
    | simp (disch := omega) only [wrap_in, toNat_succ, toNat_pred, Int.toNat_natCast]
    | with_reducible refine And.intro (by omega) ?_
    | with_reducible refine exI (by omega) ?_
    | fail
  exact ⟨rfl, Keeps.refl _⟩
theorem at_spec (L : Lab) (f : Int) (h : Hp) : CallK Tryd.prog 21 [.pt L 0 0 0, .int .i64 f] h (fun r h' => r = .pt L 0 0 (fidx f) ∧ h' = h) := by
  refine CallK.of_awpH mixed (fun _ => []) (fn := Tryd.f21) (by kernel_rfl) rfl (by kernel_rfl) (by show 2 ≤ _; decide) ?_
  repeat' first
    | (with_reducible refine CondX.dec (fun c => ?_) (fun c => ?_)) <;> try (exfalso; omega)
    | (with_reducible refine CondX.beq (fun c => ?_) (fun c => ?_)) <;> try (exfalso; omega)
    | (with_reducible refine CondX.bne (fun c => ?_) (fun c => ?_)) <;> try (exfalso; omega)
    | (with_reducible refine CondX.bool (fun c => ?_) (fun c => ?_)) <;> try (exfalso; omega)
    | simp only [go_sem, I_eq, I_cells, Nat.reduceAdd, Nat.reduceBEq, Nat.reduceEqDiff, Nat.reduceLeDiff, Nat.reduceLT, Nat.reduceSub]
    | simp (disch := omega) only [wrap_in, toNat_succ, toNat_pred, Int.toNat_natCast]
    | with_reducible refine And.intro (by omega) ?_
    | with_reducible refine exI (by omega) ?_
    | fail
  all_goals simp_all [fidx]
theorem fidx_some {ws : List Bs} {w : Bs} {i : Nat} (hi : i < ws.length) (hn : ∀ x ∈ ws.take i, x ≠ w) (he : ws[i] = w) : ws.findIdx? (· == w) = some i := by
  rw [List.findIdx?_eq_some_iff_getElem]
  refine ⟨hi, by simp [he], fun j hj => ?_⟩
  have := hn ws[j] (List.mem_take_iff_getElem.2 ⟨j, by omega, rfl⟩)
  simpa using this
theorem fidx_none {ws : List Bs} {w : Bs} (hn : ∀ x ∈ ws, x ≠ w) : ws.findIdx? (· == w) = none := by
  rw [List.findIdx?_eq_none_iff]
  exact fun x hx => by simpa using hn x hx
def idxV (ws : List Bs) (w : Bs) : Int := match ws.findIdx? (· == w) with | some i => (i : Int) | none => -1
/-- slices.Index at strings. -/
theorem SIndex_spec (ws : List Bs) (w : Bs) (ex : Bool) (hl : ws.length < 2 ^ 61) : PureF Tryd.prog 29 [.l ex 1 (ws.map strV), strV w] (.int .i64 (idxV ws w)) := by
  refine PureF.of_awp mixed (fun _ => []) (fn := Tryd.f29) (by kernel_rfl) rfl (by kernel_rfl) (by show 2 ≤ _; decide) (by simp [AV.lf]) (fun h => ?_)
  repeat' first
    | (with_reducible refine CondX.dec (fun c => ?_) (fun c => ?_)) <;> try (exfalso; omega)
    | (with_reducible refine CondX.beq (fun c => ?_) (fun c => ?_)) <;> try (exfalso; omega)
    | (with_reducible refine CondX.bne (fun c => ?_) (fun c => ?_)) <;> try (exfalso; omega)
    | (with_reducible refine CondX.bool (fun c => ?_) (fun c => ?_)) <;> try (exfalso; omega)
    | simp only [go_sem, I_eq, I_cells, Nat.reduceAdd, Nat.reduceBEq, Nat.reduceEqDiff, Nat.reduceLeDiff, Nat.reduceLT, Nat.reduceSub]
    | simp (disch := omega) only [wrap_in, toNat_succ, toNat_pred, Int.toNat_natCast]
    | with_reducible refine And.intro (by omega) ?_
    | with_reducible refine exI (by omega) ?_
    | fail
  refine awp_countF [(4, 5), (8, 18)] (by kernel_rfl) 8 7 (by kernel_rfl) ws.length (by omega) (fun i s => (∀ x ∈ ws.take i, x ≠ w) ∧ s.hp = h) ?_ ?_ ?_ ?_ ?_
  · simp only [go_sem, I_eq, I_cells, Nat.reduceAdd, Nat.reduceBEq, Nat.reduceEqDiff, Nat.reduceLeDiff, Nat.reduceLT, Nat.reduceSub]
  · simp only [go_sem, I_eq, I_cells, Nat.reduceAdd, Nat.reduceBEq, Nat.reduceEqDiff, Nat.reduceLeDiff, Nat.reduceLT, Nat.reduceSub]
  · simp only [go_sem, I_eq, I_cells, Nat.reduceAdd, Nat.reduceBEq, Nat.reduceEqDiff, Nat.reduceLeDiff, Nat.reduceLT, Nat.reduceSub]
    exact fun x hx => by simp at hx
  · rintro i s hlt d2 hw fr g8 g7 ⟨hn, hH⟩
    repeat' first
      | (with_reducible refine CondX.dec (fun c => ?_) (fun c => ?_)) <;> try (exfalso; omega)
      | (with_reducible refine CondX.beq (fun c => ?_) (fun c => ?_)) <;> try (exfalso; omega)
      | (with_reducible refine CondX.bne (fun c => ?_) (fun c => ?_)) <;> try (exfalso; omega)
      | (with_reducible refine CondX.bool (fun c => ?_) (fun c => ?_)) <;> try (exfalso; omega)
      | simp only [go_sem, I_eq, I_cells, d2, hw, fr.at, g8, g7, hH, Nat.reduceAdd, Nat.reduceBEq, Nat.reduceEqDiff, Nat.reduceLeDiff, Nat.reduceLT, Nat.reduceSub]
      | simp (disch := omega) only [wrap_in, toNat_succ, toNat_pred, Int.toNat_natCast]
      | with_reducible refine And.intro (by omega) ?_
      | with_reducible refine exI (by omega) ?_
      | fail
    · rw [show idxV ws w = i by unfold idxV; rw [fidx_some hlt hn c.symm]]
      exact ⟨rfl, Keeps.refl _⟩
    · intro x hx
      rw [List.take_succ_eq_append_getElem hlt] at hx
      rcases List.mem_append.1 hx with hx | hx
      · exact hn x hx
      · rw [List.mem_singleton.1 hx]; exact fun e => c e.symm
  · rintro s d2 fr g8 g7 ⟨hn, hH⟩
    repeat' first
      | (with_reducible refine CondX.dec (fun c => ?_) (fun c => ?_)) <;> try (exfalso; omega)
      | (with_reducible refine CondX.beq (fun c => ?_) (fun c => ?_)) <;> try (exfalso; omega)
      | (with_reducible refine CondX.bne (fun c => ?_) (fun c => ?_)) <;> try (exfalso; omega)
      | (with_reducible refine CondX.bool (fun c => ?_) (fun c => ?_)) <;> try (exfalso; omega)
      | simp only [go_sem, I_eq, I_cells, d2, fr.at, g8, g7, hH, Nat.reduceAdd, Nat.reduceBEq, Nat.reduceEqDiff, Nat.reduceLeDiff, Nat.reduceLT, Nat.reduceSub]
      | simp (disch := omega) only [wrap_in, toNat_succ, toNat_pred, Int.toNat_natCast]
      | with_reducible refine And.intro (by omega) ?_
      | with_reducible refine exI (by omega) ?_
      | fail
    rw [List.take_length] at hn
    rw [show idxV ws w = -1 by unfold idxV; rw [fidx_none hn]]
    exact ⟨rfl, Keeps.refl _⟩
theorem kindOf_eq (w : Bs) : idxV names w + 1 = (kindOf w : Int) := by
  unfold kindOf idxV
  cases names.findIdx? (· == w) <;> simp
theorem number_spec (w : Bs) (hl : w.length ≤ 65536) : PureF Tryd.prog 30 [strV w] (.tup [.int .i64 ((num w).getD 0), .bool (num w).isSome]) := by
  refine PureF.of_awp mixed (fun _ => []) (fn := Tryd.f30) (by kernel_rfl) rfl (by kernel_rfl) (by show 1 ≤ _; decide) (by simp [AV.lf, AV.lfs]) (fun h => ?_)
  have t1 := TrimPrefix_at w [45]
  rw [digs_eq] at t1
  have hdl : (digs w).length ≤ w.length := by unfold digs; split <;> simp
  have t2 := Trim_at (digs w) decS (by omega) (by decide) (by decide)
  repeat' first
    | (with_reducible refine CondX.dec (fun c => ?_) (fun c => ?_)) <;> try (exfalso; omega)
    | (with_reducible refine CondX.beq (fun c => ?_) (fun c => ?_)) <;> try (exfalso; omega)
    | (with_reducible refine CondX.bne (fun c => ?_) (fun c => ?_)) <;> try (exfalso; omega)
    | (with_reducible refine CondX.bool (fun c => ?_) (fun c => ?_)) <;> try (exfalso; omega)
    | ((with_reducible refine CallX.id ?_); first | refine CallX.pure (t1) ?_ | refine CallX.pure (t2) ?_)
    | simp only [go_sem, I_eq, I_cells, Nat.reduceAdd, Nat.reduceBEq, Nat.reduceEqDiff, Nat.reduceLeDiff, Nat.reduceLT, Nat.reduceSub]
    | simp (disch := omega) only [wrap_in, toNat_succ, toNat_pred, Int.toNat_natCast]
    | with_reducible refine And.intro (by omega) ?_
    | with_reducible refine exI (by omega) ?_
    | fail
  · rw [num_none (fun e => e.1 c)]
    exact ⟨rfl, Keeps.refl _⟩
  · rw [num_none (fun e => by have := e.2.1; omega)]
    exact ⟨rfl, Keeps.refl _⟩
  · rename_i c1 c2
    have h3 := (trim_digits _).1 c
    clear c
    refine ⟨List.length_pos_iff.2 c1, ?_⟩
    have hh := head_getD c1
    have at1 : isNum w = true → PureF Tryd.prog 40 [strV w] (.tup [.int .i64 (numV w), .undef]) := fun e => Atoi_at w _ (by omega) (atoi_num e)
    repeat' first
      | (with_reducible refine CondX.dec (fun c => ?_) (fun c => ?_)) <;> try (exfalso; omega)
      | (with_reducible refine CondX.beq (fun c => ?_) (fun c => ?_)) <;> try (exfalso; omega)
      | (with_reducible refine CondX.bne (fun c => ?_) (fun c => ?_)) <;> try (exfalso; omega)
      | (with_reducible refine CondX.bool (fun c => ?_) (fun c => ?_)) <;> try (exfalso; omega)
      | simp only [go_sem, I_eq, I_cells, Nat.reduceAdd, Nat.reduceBEq, Nat.reduceEqDiff, Nat.reduceLeDiff, Nat.reduceLT, Nat.reduceSub]
      | simp (disch := omega) only [wrap_in, toNat_succ, toNat_pred, Int.toNat_natCast]
      | with_reducible refine And.intro (by omega) ?_
      | with_reducible refine exI (by omega) ?_
      | fail
    · have hn := num_some c1 (by omega) h3 (fun _ => c)
      rw [num_val hn]
      refine CallX.pure (at1 hn) ?_
      repeat' first
        | (with_reducible refine CondX.dec (fun c => ?_) (fun c => ?_)) <;> try (exfalso; omega)
        | (with_reducible refine CondX.beq (fun c => ?_) (fun c => ?_)) <;> try (exfalso; omega)
        | (with_reducible refine CondX.bne (fun c => ?_) (fun c => ?_)) <;> try (exfalso; omega)
        | (with_reducible refine CondX.bool (fun c => ?_) (fun c => ?_)) <;> try (exfalso; omega)
        | simp only [go_sem, I_eq, I_cells, Nat.reduceAdd, Nat.reduceBEq, Nat.reduceEqDiff, Nat.reduceLeDiff, Nat.reduceLT, Nat.reduceSub]
        | simp (disch := omega) only [wrap_in, toNat_succ, toNat_pred, Int.toNat_natCast]
        | with_reducible refine And.intro (by omega) ?_
        | with_reducible refine exI (by omega) ?_
        | fail
      exact ⟨rfl, Keeps.refl _⟩
    · rename_i c3
      have h48 : (digs w).getD 0 0 = 48 := UInt8.toNat_inj.1 (by have : (48 : UInt8).toNat = 48 := rfl; omega)
      rw [num_none (fun e => c (e.2.2.2 (by rw [hh, h48])))]
      exact ⟨rfl, Keeps.refl _⟩
    · have hn := num_some c1 (by omega) h3 (fun e => by
        rw [hh] at e
        injection e with e
        rw [e] at c
        exact absurd rfl c)
      rw [num_val hn]
      refine CallX.pure (at1 hn) ?_
      repeat' first
        | (with_reducible refine CondX.dec (fun c => ?_) (fun c => ?_)) <;> try (exfalso; omega)
        | (with_reducible refine CondX.beq (fun c => ?_) (fun c => ?_)) <;> try (exfalso; omega)
        | (with_reducible refine CondX.bne (fun c => ?_) (fun c => ?_)) <;> try (exfalso; omega)
        | (with_reducible refine CondX.bool (fun c => ?_) (fun c => ?_)) <;> try (exfalso; omega)
        | simp only [go_sem, I_eq, I_cells, Nat.reduceAdd, Nat.reduceBEq, Nat.reduceEqDiff, Nat.reduceLeDiff, Nat.reduceLT, Nat.reduceSub]
        | simp (disch := omega) only [wrap_in, toNat_succ, toNat_pred, Int.toNat_natCast]
        | with_reducible refine And.intro (by omega) ?_
        | with_reducible refine exI (by omega) ?_
        | fail
      exact ⟨rfl, Keeps.refl _⟩
  · rw [num_none (fun e => c ((trim_digits _).2 e.2.2.1))]
    exact ⟨rfl, Keeps.refl _⟩
end Go.Proofs.YtocfaflghcgniaaDoor
/- script.line. -/
namespace Go.Proofs.YtocfaflghcgniaaDoor
open Go Go.T Go.Proofs Go.Sc Go.RowKit
set_option linter.unusedSimpArgs false
set_option linter.unusedVariables false
set_option maxRecDepth 10000
set_option maxHeartbeats 1000000
/-- A step's cells. -/
def stpC (s : Stp) : List AV := [.int .i64 s.kind, .int .i64 s.node, .int .i64 s.obj, .int .i64 s.i, .int .i64 s.j]
def encP (s : Stp) : AV := .agg (stpC s)
def zeroP : Stp := ⟨0, 0, 0, 0, 0⟩
theorem stpC_len (s : Stp) : (stpC s).length = 5 := rfl
theorem stpC_set (s : Stp) (f x : Int) : (stpC s).set (fidx f) (.int .i64 x) = stpC (setF s f x) := by
  unfold stpC setF fidx
  by_cases h0 : f = 0
  · simp [h0]
  by_cases h1 : f = 1
  · simp [h0, h1]
  by_cases h2 : f = 2 <;> simp [h0, h1, h2]
theorem stpC_take (s : Stp) : (stpC s).take 5 = stpC s := rfl
theorem stpC_over (s t : Stp) : setRange (stpC s) 0 (stpC t) = stpC t := by simp [stpC, setRange]
theorem stpC_z5 (s : Stp) : ((((((stpC s).set 0 (.int .i64 0)).set 1 (.int .i64 0)).set 2 (.int .i64 0)).set 3 (.int .i64 0)).set 4 (.int .i64 0)) = stpC zeroP := by simp [stpC, zeroP]
theorem stpC_zover (s : Stp) : setRange [.int .i64 0, .int .i64 0, .int .i64 0, .int .i64 0, .int .i64 0] 0 (stpC s) = stpC s := stpC_over zeroP s
theorem encP_eq (s : Stp) : encP s = .agg (stpC s) := rfl
theorem encP_cells (s : Stp) : (encP s).cells = stpC s := by simp [encP, AV.cells]
theorem stpC_all (s : Stp) : (stpC s).all AV.isCell = true := by simp [stpC, AV.isCell]
theorem encP_lf (s : Stp) : (encP s).lf = true := by simp [encP, stpC, AV.lf, AV.lfs]
theorem P_lfs (l : List Stp) : AV.lfs (l.map encP) = true := lfs_map encP encP_lf l
def T16 : Nat → List Tg := fun id => if id = 1 then [.pure, .plain, .plain, .plain, .pure] else []
theorem lineR_eq {ws : List Bs} (h : 0 < ws.length) : lineR ws = if kindOf ws[0] = 0 then none else if ws.length ≠ 1 + arity (kindOf ws[0]) then none else (nums ws.tail).map (made (kindOf ws[0])) := by
  cases ws with
  | nil => simp at h
  | cons w r =>
    simp only [lineR, List.getElem_cons_zero, List.tail_cons, List.length_cons]
    by_cases h0 : kindOf w = 0
    · simp [h0]
    · simp only [h0, if_false]
      by_cases h1 : r.length = arity (kindOf w)
      · rw [if_neg (by omega), if_neg (by omega)]
      · rw [if_pos (by omega), if_pos (by omega)]
theorem line_spec (ws : List Bs) (ex : Bool) (h0 : 0 < ws.length) (hl : ws.length < 2 ^ 60) (hw : ∀ x ∈ ws, x.length ≤ 65536) :
    PureF Tryd.prog 16 [.l ex 1 (ws.map strV)] (.tup [encP ((lineR ws).getD zeroP), .bool (lineR ws).isSome]) := by
  refine PureF.of_awp mixed T16 (fn := Tryd.f16) (by kernel_rfl) rfl (by kernel_rfl) (by show 1 ≤ _; decide) (by simp [AV.lf, AV.lfs, encP_lf]) (fun h => ?_)
  have ix := SIndex_spec names ws[0] true (by decide)
  have hk := kindOf_eq ws[0]
  obtain ⟨v, hv⟩ : ∃ v : Int, idxV names ws[0] = v := ⟨_, rfl⟩
  rw [hv] at ix hk
  have hkl := kindOf_le ws[0]
  obtain ⟨k, hke⟩ : ∃ k, kindOf ws[0] = k := ⟨_, rfl⟩
  rw [hke] at hk hkl
  have hlr := lineR_eq h0
  rw [hke] at hlr
  have w1 : IntKind.i64.wrap (v + 1) = (k : Int) := by rw [hk, IntWalk.i64_in _ (by omega)]
  have w2 : IntKind.i64.wrap (1 + ((fieldsL k).length : Int)) = ((1 + (fieldsL k).length : Nat) : Int) := by have := fieldsL_le k; rw [IntWalk.i64_in _ (by omega)]; simp
  repeat' first
    | (with_reducible refine CondX.dec (fun c => ?_) (fun c => ?_)) <;> try (exfalso; omega)
    | (with_reducible refine CondX.beq (fun c => ?_) (fun c => ?_)) <;> try (exfalso; omega)
    | (with_reducible refine CondX.bne (fun c => ?_) (fun c => ?_)) <;> try (exfalso; omega)
    | (with_reducible refine CondX.bool (fun c => ?_) (fun c => ?_)) <;> try (exfalso; omega)
    | ((with_reducible refine CallX.id ?_); first | refine CallX.pure (words_spec) ?_ | refine CallX.pure (ix) ?_ | refine CallX.pure (fields_spec k) ?_)
    | ((with_reducible refine PureX.id ?_); first | refine PureX.of (words_spec) ?_ | refine PureX.of (ix) ?_ | refine PureX.of (fields_spec k) ?_)
    | simp only [go_sem, I_eq, I_cells, T16, w1, w2, List.getElem_map, cells_strV, Nat.reduceAdd, Nat.reduceBEq, Nat.reduceEqDiff, Nat.reduceLeDiff, Nat.reduceLT, Nat.reduceSub]
    | simp (disch := omega) only [wrap_in, toNat_succ, toNat_pred, Int.toNat_natCast]
    | with_reducible refine And.intro (by omega) ?_
    | with_reducible refine exI (by omega) ?_
    | fail
  · rw [hlr, if_pos (by omega)]
    exact ⟨rfl, by ((repeat first | with_reducible apply Keeps.alloc | (with_reducible refine Keeps.set ?_ ?hL _; case hL => first | assumption | exact Hp.ok _ _ (by simp) | exact Keeps.new (by assumption) _ _)); first | assumption | exact Keeps.refl _)⟩
  · have hk0 : k ≠ 0 := by rename_i c1; omega
    rw [hlr, if_neg hk0, if_pos (by rw [← fieldsL_len hk0 hkl]; omega)]
    exact ⟨rfl, by ((repeat first | with_reducible apply Keeps.alloc | (with_reducible refine Keeps.set ?_ ?hL _; case hL => first | assumption | exact Hp.ok _ _ (by simp) | exact Keeps.new (by assumption) _ _)); first | assumption | exact Keeps.refl _)⟩
  · have hk0 : k ≠ 0 := by rename_i c1; omega
    have hfl := fieldsL_len hk0 hkl
    have hwl : ws.length = 1 + arity k := by omega
    rw [if_neg hk0, if_neg (by omega)] at hlr
    obtain ⟨fs, hfs⟩ : ∃ fs, fieldsL (k : Int) = fs := ⟨_, rfl⟩
    have hf3 := fieldsL_le k
    rw [hfs] at hfl hf3 w2 ⊢
    have htl : ws.tail.length = fs.length := by rw [List.length_tail]; omega
    refine awp_countF [(3, 3), (6, 9), (33, 54)] (by kernel_rfl) 33 32 (by kernel_rfl) fs.length (by omega) (fun i s => ∃ xs, nums (ws.tail.take i) = some xs ∧ s.hp.con ⟨16, 5, h.cnt 16 5⟩ = .blk (stpC (applyL fs xs ⟨k, 0, 0, 0, 0⟩)) ∧ s.hp.con ⟨16, 2, h.cnt 16 2⟩ = .blk (stpC zeroP) ∧ Keeps h s.hp) ?_ ?_ ?_ ?_ ?_
    · simp only [go_sem, I_eq, I_cells, Nat.reduceAdd, Nat.reduceBEq, Nat.reduceEqDiff, Nat.reduceLeDiff, Nat.reduceLT, Nat.reduceSub]
    · simp only [go_sem, I_eq, I_cells, Nat.reduceAdd, Nat.reduceBEq, Nat.reduceEqDiff, Nat.reduceLeDiff, Nat.reduceLT, Nat.reduceSub]
    · simp only [go_sem, I_eq, I_cells, Nat.reduceAdd, Nat.reduceBEq, Nat.reduceEqDiff, Nat.reduceLeDiff, Nat.reduceLT, Nat.reduceSub]
      exact ⟨[], by simp [nums], by rw [applyL_nil]; rfl, rfl, by ((repeat first | with_reducible apply Keeps.alloc | (with_reducible refine Keeps.set ?_ ?hL _; case hL => first | assumption | exact Hp.ok _ _ (by simp) | exact Keeps.new (by assumption) _ _)); first | assumption | exact Keeps.refl _)⟩
    · rintro i s hlt d2 hw2 fr g33 g32 ⟨xs, hx, k5, k2, gK⟩
      have hi1 : 1 + i < ws.length := by omega
      have w3 : IntKind.i64.wrap (1 + (i : Int)) = ((1 + i : Nat) : Int) := by rw [IntWalk.i64_in _ (by omega)]; simp
      have hxl := nums_len _ _ hx
      rw [List.length_take] at hxl
      have e1 : ws.tail[i]'(by omega) = ws[1 + i] := by rw [List.getElem_tail]; congr 1; omega
      have hnx := nums_next (a := ws.tail) (by omega) hx
      rw [e1] at hnx
      have hstop : num ws[1 + i] = none → nums ws.tail = none := fun e => nums_stop (i := i) (by omega) (by rw [e1]; exact e)
      repeat' first
        | (with_reducible refine CondX.dec (fun c => ?_) (fun c => ?_)) <;> try (exfalso; omega)
        | (with_reducible refine CondX.beq (fun c => ?_) (fun c => ?_)) <;> try (exfalso; omega)
        | (with_reducible refine CondX.bne (fun c => ?_) (fun c => ?_)) <;> try (exfalso; omega)
        | (with_reducible refine CondX.bool (fun c => ?_) (fun c => ?_)) <;> try (exfalso; omega)
        | ((with_reducible refine CallX.id ?_); first | refine CallX.pure (number_spec _ (hw _ (List.getElem_mem hi1))) ?_ | refine CallX.at (at_spec _ _ _) ?_)
        | simp only [go_sem, I_eq, I_cells, T16, fr.at, g33, g32, d2, hw2, w3, k5, k2, List.getElem_map, cells_strV, stpC_len, Nat.reduceAdd, Nat.reduceBEq, Nat.reduceEqDiff, Nat.reduceLeDiff, Nat.reduceLT, Nat.reduceSub]
        | simp (disch := omega) only [wrap_in, toNat_succ, toNat_pred, Int.toNat_natCast]
        | with_reducible refine And.intro (by omega) ?_
        | with_reducible refine exI (by omega) ?_
        | fail
      · obtain ⟨x, hx1⟩ := Option.isSome_iff_exists.1 c
        rw [hx1] at hnx ⊢
        have hil : xs.length = i := by omega
        refine ⟨by have := fidx_le fs[i]; omega, xs ++ [x], by rw [hnx]; rfl, ?_, ?_⟩
        · rw [stpC_set, applyL_next fs xs _ (by omega)]
          subst hil
          rfl
        · exact gK.set (h.ok _ (by simp)) _
      · have hn : num ws[1 + i] = none := by simpa using c
        rw [hlr, hstop hn]
        simp only [stpC_z5, stpC_take, stpC_len]
        exact ⟨⟨by omega, rfl⟩, gK.set (h.ok _ (by simp)) _⟩
    · rintro s d2 fr g33 g32 ⟨xs, hx, k5, k2, gK⟩
      repeat' first
        | (with_reducible refine CondX.dec (fun c => ?_) (fun c => ?_)) <;> try (exfalso; omega)
        | (with_reducible refine CondX.beq (fun c => ?_) (fun c => ?_)) <;> try (exfalso; omega)
        | (with_reducible refine CondX.bne (fun c => ?_) (fun c => ?_)) <;> try (exfalso; omega)
        | (with_reducible refine CondX.bool (fun c => ?_) (fun c => ?_)) <;> try (exfalso; omega)
        | simp only [go_sem, I_eq, I_cells, T16, fr.at, g33, g32, d2, k5, k2, stpC_len, Nat.reduceAdd, Nat.reduceBEq, Nat.reduceEqDiff, Nat.reduceLeDiff, Nat.reduceLT, Nat.reduceSub]
        | simp (disch := omega) only [wrap_in, toNat_succ, toNat_pred, Int.toNat_natCast]
        | with_reducible refine And.intro (by omega) ?_
        | with_reducible refine exI (by omega) ?_
        | fail
      have hxl := nums_len _ _ hx
      rw [List.take_of_length_le (by omega)] at hx hxl
      have hr : lineR ws = some (made k xs) := by rw [hlr, hx]; rfl
      have ha : applyL fs xs ⟨k, 0, 0, 0, 0⟩ = made k xs := by
        rw [← hfs]; exact applyL_made hk0 hkl xs (by omega)
      rw [ha, hr]
      repeat' first
        | (with_reducible refine CondX.dec (fun c => ?_) (fun c => ?_)) <;> try (exfalso; omega)
        | (with_reducible refine CondX.beq (fun c => ?_) (fun c => ?_)) <;> try (exfalso; omega)
        | (with_reducible refine CondX.bne (fun c => ?_) (fun c => ?_)) <;> try (exfalso; omega)
        | (with_reducible refine CondX.bool (fun c => ?_) (fun c => ?_)) <;> try (exfalso; omega)
        | simp only [go_sem, I_eq, I_cells, stpC_take, stpC_len, stpC_all, stpC_over, Nat.reduceAdd, Nat.reduceBEq, Nat.reduceEqDiff, Nat.reduceLeDiff, Nat.reduceLT, Nat.reduceSub]
        | simp (disch := omega) only [wrap_in, toNat_succ, toNat_pred, Int.toNat_natCast]
        | with_reducible refine And.intro (by omega) ?_
        | with_reducible refine exI (by omega) ?_
        | fail
      exact ⟨rfl, gK.set (h.ok _ (by simp)) _⟩
end Go.Proofs.YtocfaflghcgniaaDoor
/- The document's functions of layer 21: words, numbers, names. -/
namespace Go.Sc
theorem wordsG_cons (w : Bs) (x : UInt8) (r : Bs) : wordsG w (x :: r) = if x = 32 then (if w = [] then wordsG [] r else w :: wordsG [] r) else wordsG (w ++ [x]) r := by
  conv => lhs; unfold wordsG
theorem drop_getD {l : Bs} {i : Nat} (h : i < l.length) : l.drop i = l.getD i 0 :: l.drop (i + 1) := by
  rw [List.drop_eq_getElem_cons h]; simp [h]
theorem getD_drop (l : Bs) (i j : Nat) : (l.drop i).getD j 0 = l.getD (i + j) 0 := by simp [List.getD_eq_getElem?_getD]
theorem digs_drop (w : Bs) : digs w = w.drop (if neg w then 1 else 0) := by
  unfold digs; split <;> simp
theorem neg_getD {w : Bs} (h : 0 < w.length) : neg w = (w.getD 0 0 == 45) := by
  cases w with
  | nil => simp at h
  | cons x r => simp [neg]
theorem valN_app : ∀ (a b : Bs) (x : Nat), valN x (a ++ b) = valN (valN x a) b := by
  intro a
  induction a with
  | nil => intro b x; rw [List.nil_append, valN_nil]
  | cons c r ih => intro b x; rw [List.cons_append, valN_cons, valN_cons, ih]
def nameI (k : Int) : Bs := nameOf k.toNat
end Go.Sc
namespace Go.Proofs.YtocfaflghcgniaaDoor
open Go Go.T Go.Proofs Go.Sc Go.RowKit
set_option linter.unusedSimpArgs false
set_option linter.unusedVariables false
set_option maxRecDepth 10000
set_option maxHeartbeats 2000000
theorem rname_spec (k : Int) : PureF Tryd.prog 25 [.int .i64 k] (strV (nameI k)) := by
  refine PureF.of_awp mixed (fun _ => []) (fn := Tryd.f25) (by kernel_rfl) rfl (by kernel_rfl) (by show 1 ≤ _; decide) (by simp [strV_lf]) (fun h => ?_)
  repeat' first
    | (with_reducible refine CondX.dec (fun c => ?_) (fun c => ?_)) <;> try (exfalso; omega)
    | (with_reducible refine CondX.beq (fun c => ?_) (fun c => ?_)) <;> try (exfalso; omega)
    | (with_reducible refine CondX.bne (fun c => ?_) (fun c => ?_)) <;> try (exfalso; omega)
    | (with_reducible refine CondX.bool (fun c => ?_) (fun c => ?_)) <;> try (exfalso; omega)
    | simp only [go_sem, I_eq, I_cells, Nat.reduceAdd, Nat.reduceBEq, Nat.reduceEqDiff, Nat.reduceLeDiff, Nat.reduceLT, Nat.reduceSub]
    | simp (disch := omega) only [wrap_in, toNat_succ, toNat_pred, Int.toNat_natCast]
    | with_reducible refine And.intro (by omega) ?_
    | with_reducible refine exI (by omega) ?_
    | fail
  all_goals refine ⟨?_, Keeps.refl _⟩
  all_goals first | (subst_vars; rfl) | skip
  have e : nameI k = [] := by
    unfold nameI
    by_cases h0 : 0 ≤ k
    · obtain ⟨n, rfl⟩ := Int.eq_ofNat_of_zero_le h0
      unfold nameOf
      split <;> simp_all
    · have : k.toNat = 0 := by omega
      rw [this]; rfl
  rw [e]
theorem rwords_spec (l : Bs) (hl : l.length ≤ 65536) : PureF Tryd.prog 31 [strV l] (.l false 1 ((words l).map strV)) := by
  refine PureF.ofOwn (fun h => ?_) (S_lfs _)
  refine CallK.of_awpH mixed (fun _ => []) (fn := Tryd.f31) (by kernel_rfl) rfl (by kernel_rfl) (by show 1 ≤ _; decide) ?_
  repeat' first
    | (with_reducible refine CondX.dec (fun c => ?_) (fun c => ?_)) <;> try (exfalso; omega)
    | (with_reducible refine CondX.beq (fun c => ?_) (fun c => ?_)) <;> try (exfalso; omega)
    | (with_reducible refine CondX.bne (fun c => ?_) (fun c => ?_)) <;> try (exfalso; omega)
    | (with_reducible refine CondX.bool (fun c => ?_) (fun c => ?_)) <;> try (exfalso; omega)
    | simp only [go_sem, I_eq, I_cells, Nat.reduceAdd, Nat.reduceBEq, Nat.reduceEqDiff, Nat.reduceLeDiff, Nat.reduceLT, Nat.reduceSub]
    | simp (disch := omega) only [wrap_in, toNat_succ, toNat_pred, Int.toNat_natCast]
    | with_reducible refine And.intro (by omega) ?_
    | with_reducible refine exI (by omega) ?_
    | fail
  obtain ⟨W, hW⟩ : ∃ W, words l = W := ⟨_, rfl⟩
  rw [hW]
  rw [← words_eq] at hW
  refine awp_forF [(3, 28)] (by kernel_rfl) 5 l.length (by omega) (fun i s => ∃ v w done, s.slots 3 = v ∧ s.slots 4 = strV w ∧ Acc h s.hp 1 v (done.map strV) ∧ Keeps h s.hp ∧ done ++ wordsG w (l.drop i) = W ∧ w.length ≤ i ∧ done.length ≤ i) ?_ ?_ ?_ ?_
  · simp only [go_sem, I_eq, I_cells, Nat.reduceAdd, Nat.reduceBEq, Nat.reduceEqDiff, Nat.reduceLeDiff, Nat.reduceLT, Nat.reduceSub]
  · simp only [go_sem, I_eq, I_cells, Nat.reduceAdd, Nat.reduceBEq, Nat.reduceEqDiff, Nat.reduceLeDiff, Nat.reduceLT, Nat.reduceSub]
    exact ⟨_, [], [], rfl, rfl, .nil, Keeps.refl _, hW, by simp, by simp⟩
  · rintro i s hlt d2 hw fr g5 ⟨v, w, done, g3, g4, ga, gk, hd, hwl, hdl⟩
    rw [drop_getD hlt, wordsG_cons] at hd
    have ht : (l.drop i).take (i + 1 - i) = [l.getD i 0] := by rw [drop_getD hlt, show i + 1 - i = 1 by omega]; rfl
    obtain ⟨x, hx⟩ : ∃ x, l.getD i 0 = x := ⟨_, rfl⟩
    rw [hx] at hd ht
    have h32 : (32 : UInt8).toNat = 32 := rfl
    repeat' first
      | (with_reducible refine CondX.dec (fun c => ?_) (fun c => ?_)) <;> try (exfalso; omega)
      | (with_reducible refine CondX.beq (fun c => ?_) (fun c => ?_)) <;> try (exfalso; omega)
      | (with_reducible refine CondX.bne (fun c => ?_) (fun c => ?_)) <;> try (exfalso; omega)
      | (with_reducible refine CondX.bool (fun c => ?_) (fun c => ?_)) <;> try (exfalso; omega)
      | simp only [go_sem, I_eq, I_cells, fr.at, g3, g4, g5, d2, hw, ht, hx, Nat.reduceAdd, Nat.reduceBEq, Nat.reduceEqDiff, Nat.reduceLeDiff, Nat.reduceLT, Nat.reduceSub]
      | simp (disch := omega) only [wrap_in, toNat_succ, toNat_pred, Int.toNat_natCast]
      | with_reducible refine And.intro (by omega) ?_
      | with_reducible refine exI (by omega) ?_
      | fail
    · have : x ≠ 32 := fun e => c (by rw [e]; rfl)
      rw [if_neg this] at hd
      exact ⟨v, w ++ [x], done, rfl, rfl, ga, gk, hd, by simp; omega, by omega⟩
    · have : x = 32 := UInt8.toNat_inj.1 (by omega)
      rw [if_pos this, if_pos c] at hd
      exact ⟨v, [], done, rfl, rfl, ga, gk, hd, by simp, by omega⟩
    · have : x = 32 := UInt8.toNat_inj.1 (by omega)
      rw [if_pos this, if_neg c] at hd
      refine ga.app gk (by simp only [List.length_map, List.length_cons, List.length_nil]; omega) (by simp only [List.length_map, List.length_cons, List.length_nil]; omega) (by decide) fun H' v' a' kp' f1 f2 ev => ?_
      repeat' first
        | (with_reducible refine CondX.dec (fun c => ?_) (fun c => ?_)) <;> try (exfalso; omega)
        | (with_reducible refine CondX.beq (fun c => ?_) (fun c => ?_)) <;> try (exfalso; omega)
        | (with_reducible refine CondX.bne (fun c => ?_) (fun c => ?_)) <;> try (exfalso; omega)
        | (with_reducible refine CondX.bool (fun c => ?_) (fun c => ?_)) <;> try (exfalso; omega)
        | simp only [go_sem, I_eq, I_cells, fr.at, g5, hw, Nat.reduceAdd, Nat.reduceBEq, Nat.reduceEqDiff, Nat.reduceLeDiff, Nat.reduceLT, Nat.reduceSub]
        | simp (disch := omega) only [wrap_in, toNat_succ, toNat_pred, Int.toNat_natCast]
        | with_reducible refine And.intro (by omega) ?_
        | with_reducible refine exI (by omega) ?_
        | fail
      exact ⟨v', [], done ++ [w], rfl, rfl, by rw [List.map_append]; exact a', kp', by rw [List.append_assoc]; exact hd, by simp, by simp; omega⟩
  · rintro s d2 fr g5 ⟨v, w, done, g3, g4, ga, gk, hd, hwl, hdl⟩
    rw [List.drop_length] at hd
    unfold wordsG at hd
    repeat' first
      | (with_reducible refine CondX.dec (fun c => ?_) (fun c => ?_)) <;> try (exfalso; omega)
      | (with_reducible refine CondX.beq (fun c => ?_) (fun c => ?_)) <;> try (exfalso; omega)
      | (with_reducible refine CondX.bne (fun c => ?_) (fun c => ?_)) <;> try (exfalso; omega)
      | (with_reducible refine CondX.bool (fun c => ?_) (fun c => ?_)) <;> try (exfalso; omega)
      | simp only [go_sem, I_eq, I_cells, fr.at, g3, g4, g5, d2, Nat.reduceAdd, Nat.reduceBEq, Nat.reduceEqDiff, Nat.reduceLeDiff, Nat.reduceLT, Nat.reduceSub]
      | simp (disch := omega) only [wrap_in, toNat_succ, toNat_pred, Int.toNat_natCast]
      | with_reducible refine And.intro (by omega) ?_
      | with_reducible refine exI (by omega) ?_
      | fail
    · rw [if_pos c, List.append_nil] at hd
      rw [← hd]
      exact ⟨ga, gk⟩
    · rw [if_neg c] at hd
      refine ga.app gk (by simp only [List.length_map, List.length_cons, List.length_nil]; omega) (by simp only [List.length_map, List.length_cons, List.length_nil]; omega) (by decide) fun H' v' a' kp' f1 f2 ev => ?_
      repeat' first
        | (with_reducible refine CondX.dec (fun c => ?_) (fun c => ?_)) <;> try (exfalso; omega)
        | (with_reducible refine CondX.beq (fun c => ?_) (fun c => ?_)) <;> try (exfalso; omega)
        | (with_reducible refine CondX.bne (fun c => ?_) (fun c => ?_)) <;> try (exfalso; omega)
        | (with_reducible refine CondX.bool (fun c => ?_) (fun c => ?_)) <;> try (exfalso; omega)
        | simp only [go_sem, I_eq, I_cells, Nat.reduceAdd, Nat.reduceBEq, Nat.reduceEqDiff, Nat.reduceLeDiff, Nat.reduceLT, Nat.reduceSub]
        | simp (disch := omega) only [wrap_in, toNat_succ, toNat_pred, Int.toNat_natCast]
        | with_reducible refine And.intro (by omega) ?_
        | with_reducible refine exI (by omega) ?_
        | fail
      rw [← hd, List.map_append]
      exact ⟨a', kp'⟩
end Go.Proofs.YtocfaflghcgniaaDoor
/- The document's numbers. -/
namespace Go.Proofs.YtocfaflghcgniaaDoor
open Go Go.T Go.Proofs Go.Sc Go.RowKit
set_option linter.unusedSimpArgs false
set_option linter.unusedVariables false
set_option maxRecDepth 10000
set_option maxHeartbeats 2000000
theorem rnumber_spec (w : Bs) (hl : w.length ≤ 65536) : PureF Tryd.prog 32 [strV w] (.tup [.int .i64 ((num w).getD 0), .bool (num w).isSome]) := by
  refine PureF.of_awp mixed (fun _ => []) (fn := Tryd.f32) (by kernel_rfl) rfl (by kernel_rfl) (by show 1 ≤ _; decide) (by simp [AV.lf, AV.lfs]) (fun h => ?_)
  obtain ⟨a, ha⟩ : ∃ a, (if neg w then 1 else 0 : Nat) = a := ⟨_, rfl⟩
  have hd := digs_drop w
  rw [ha] at hd
  obtain ⟨d, hde⟩ : ∃ d, digs w = d := ⟨_, rfl⟩
  rw [hde] at hd
  have ha1 : a ≤ 1 := by rw [← ha]; split <;> omega
  have haw : a ≤ w.length := by
    rw [← ha]
    by_cases hn : neg w = true
    · rw [if_pos hn]
      cases w with
      | nil => simp [neg] at hn
      | cons x r => simp
    · rw [if_neg hn]; omega
  have hdl : d.length = w.length - a := by rw [hd]; simp
  have hbad := fun e => @num_none w e
  rw [hde] at hbad
  rw [awp_assoc, awp_assoc]
  refine awp_cutF [(2, 4), (8, 15)] (by kernel_rfl) (fun s => s.slots 4 = .int .i64 (a : Int) ∧ s.hp = h) ?_ ?_
  · repeat' first
      | (with_reducible refine CondX.dec (fun c => ?_) (fun c => ?_)) <;> try (exfalso; omega)
      | (with_reducible refine CondX.beq (fun c => ?_) (fun c => ?_)) <;> try (exfalso; omega)
      | (with_reducible refine CondX.bne (fun c => ?_) (fun c => ?_)) <;> try (exfalso; omega)
      | (with_reducible refine CondX.bool (fun c => ?_) (fun c => ?_)) <;> try (exfalso; omega)
      | simp only [go_sem, I_eq, I_cells, Nat.reduceAdd, Nat.reduceBEq, Nat.reduceEqDiff, Nat.reduceLeDiff, Nat.reduceLT, Nat.reduceSub]
      | simp (disch := omega) only [wrap_in, toNat_succ, toNat_pred, Int.toNat_natCast]
      | with_reducible refine And.intro (by omega) ?_
      | with_reducible refine exI (by omega) ?_
      | fail
    · rw [← ha, if_pos (by rw [neg_getD (by omega)]; rw [beq_iff_eq]; exact UInt8.toNat_inj.1 (by have : (45 : UInt8).toNat = 45 := rfl; omega))]; rfl
    · rw [← ha, if_neg (by rw [neg_getD (by omega)]; rw [beq_iff_eq]; intro e; rw [e] at c; exact c rfl)]; rfl
    · rw [← ha]
      cases w with
      | nil => rfl
      | cons x r => simp at c
  rintro s fr ⟨p4, rfl⟩
  have w1 : IntKind.i64.wrap ((w.length : Int) - a) = ((d.length : Nat) : Int) := by rw [IntWalk.i64_in _ (by omega)]; omega
  rw [awp_assoc]
  refine awp_cutF [(2, 3), (5, 5), (16, 36)] (by kernel_rfl) (fun t => t.hp = s.hp ∧ d ≠ [] ∧ d.length ≤ 18 ∧ (d.head? = some 48 → w = [48])) ?_ ?_
  · repeat' first
      | (with_reducible refine CondX.dec (fun c => ?_) (fun c => ?_)) <;> try (exfalso; omega)
      | (with_reducible refine CondX.beq (fun c => ?_) (fun c => ?_)) <;> try (exfalso; omega)
      | (with_reducible refine CondX.bne (fun c => ?_) (fun c => ?_)) <;> try (exfalso; omega)
      | (with_reducible refine CondX.bool (fun c => ?_) (fun c => ?_)) <;> try (exfalso; omega)
      | simp only [go_sem, I_eq, I_cells, fr.at, p4, w1, Nat.reduceAdd, Nat.reduceBEq, Nat.reduceEqDiff, Nat.reduceLeDiff, Nat.reduceLT, Nat.reduceSub]
      | simp (disch := omega) only [wrap_in, toNat_succ, toNat_pred, Int.toNat_natCast]
      | with_reducible refine And.intro (by omega) ?_
      | with_reducible refine exI (by omega) ?_
      | fail
    · rw [hbad (fun e => e.1 (List.eq_nil_of_length_eq_zero (by omega)))]
      exact ⟨rfl, Keeps.refl _⟩
    · rw [hbad (fun e => by have := e.2.1; omega)]
      exact ⟨rfl, Keeps.refl _⟩
    · rename_i c1 c2 c3
      have hne : d ≠ [] := fun e => by rw [e] at c1; simp at c1
      have h48 : d.getD 0 0 = 48 := UInt8.toNat_inj.1 (by rw [hd, getD_drop]; have : (48 : UInt8).toNat = 48 := rfl; simp only [Nat.add_zero]; omega)
      rw [hbad (fun e => by
        have h1 := e.2.2.2 (by rw [head_getD hne, h48])
        rw [h1] at c; simp at c)]
      exact ⟨rfl, Keeps.refl _⟩
    · rename_i c1 c2 c3
      have hne : d ≠ [] := fun e => by rw [e] at c1; simp at c1
      refine ⟨hne, by omega, fun _ => ?_⟩
      have ha0 : a = 0 := by omega
      subst ha0
      rw [List.drop_zero] at hd
      have h48 : w.getD 0 0 = 48 := UInt8.toNat_inj.1 (by have : (48 : UInt8).toNat = 48 := rfl; omega)
      match w, h48, (show w.length = 1 by omega) with
      | [x], h48, _ => simp at h48; rw [h48]
    · rename_i c1 c2
      have hne : d ≠ [] := fun e => by rw [e] at c1; simp at c1
      refine ⟨hne, by omega, fun e => ?_⟩
      rw [head_getD hne] at e
      injection e with e
      rw [hd, getD_drop, Nat.add_zero] at e
      rw [e] at c
      exact absurd rfl c
  clear w1
  rintro s1 fr1 ⟨hH, hne, h18, h48⟩
  rw [awp_mid]
  refine awp_cutF [(6, 7), (37, 37)] (by kernel_rfl) (fun t => t.hp = s.hp ∧ t.slots 6 = .int .i64 0 ∧ t.slots 7 = .int .i64 (a : Int)) ?_ ?_
  · repeat' first
      | (with_reducible refine CondX.dec (fun c => ?_) (fun c => ?_)) <;> try (exfalso; omega)
      | (with_reducible refine CondX.beq (fun c => ?_) (fun c => ?_)) <;> try (exfalso; omega)
      | (with_reducible refine CondX.bne (fun c => ?_) (fun c => ?_)) <;> try (exfalso; omega)
      | (with_reducible refine CondX.bool (fun c => ?_) (fun c => ?_)) <;> try (exfalso; omega)
      | simp only [go_sem, I_eq, I_cells, fr1.at, fr.at, p4, hH, Nat.reduceAdd, Nat.reduceBEq, Nat.reduceEqDiff, Nat.reduceLeDiff, Nat.reduceLT, Nat.reduceSub]
      | simp (disch := omega) only [wrap_in, toNat_succ, toNat_pred, Int.toNat_natCast]
      | with_reducible refine And.intro (by omega) ?_
      | with_reducible refine exI (by omega) ?_
      | fail
  rintro s2 fr2 ⟨hH2, p6, p7⟩
  refine awp_cutF [(2, 3), (6, 7), (38, 61)] (by kernel_rfl) (fun t => t.hp = s.hp ∧ t.slots 6 = .int .i64 ((valN 0 d : Nat) : Int) ∧ d.all digit = true) ?_ ?_
  · rw [awp_block]
    refine awp_fuelF [(2, 3), (6, 7), (38, 61)] (by kernel_rfl) (fun k t => ∃ j, j + k = d.length ∧ t.hp = s.hp ∧ t.slots 7 = .int .i64 ((a + j : Nat) : Int) ∧ t.slots 6 = .int .i64 ((valN 0 (d.take j) : Nat) : Int) ∧ (d.take j).all digit = true) d.length ?_ ?_
    · exact ⟨0, by omega, hH2, by simpa using p7, by rw [List.take_zero, valN_nil]; exact p6, by simp⟩
    rintro k t fr3 ⟨j, hj, hH3, q7, q6, hdg⟩
    have w2 : IntKind.i64.wrap (((a + j : Nat) : Int) + 1) = ((a + (j + 1) : Nat) : Int) := by rw [IntWalk.i64_in _ (by omega)]; omega
    by_cases hjl : j < d.length
    · have hg : w.getD (a + j) 0 = d.getD j 0 := by rw [hd, getD_drop]
      have htk : d.take (j + 1) = d.take j ++ [d.getD j 0] := by rw [List.take_succ_eq_append_getElem hjl]; simp [hjl]
      have hvl := valN_bound (d := d.take j) hdg (by rw [List.length_take]; omega)
      obtain ⟨x, hx⟩ : ∃ x, d.getD j 0 = x := ⟨_, rfl⟩
      obtain ⟨n, hn⟩ : ∃ n, valN 0 (d.take j) = n := ⟨_, rfl⟩
      rw [hx] at hg htk
      rw [hn] at hvl q6
      have hdec : decide (((a + j : Nat) : Int) < (w.length : Int)) = true := decide_eq_true (by omega)
      have hvn : valN 0 (d.take (j + 1)) = n * 10 + (x.toNat - 48) := by rw [htk, valN_app, hn, valN_cons, valN_nil]
      have hu8 : 48 ≤ (x.toNat : Int) → IntKind.u8.wrap ((x.toNat : Int) - 48) = ((x.toNat - 48 : Nat) : Int) := fun h1 => by
        have := UInt8.toNat_lt x
        rw [IntWalk.u8_in _ (by omega)]; omega
      have hdx : d.all digit = true → 48 ≤ (x.toNat : Int) ∧ (x.toNat : Int) ≤ 57 := fun e => by
        have h1 := List.all_eq_true.1 e (d.getD j 0) (by simp [hjl])
        rw [hx] at h1
        unfold digit at h1
        simp only [Bool.and_eq_true, decide_eq_true_eq] at h1
        omega
      repeat' first
        | (with_reducible refine CondX.dec (fun c => ?_) (fun c => ?_)) <;> try (exfalso; omega)
        | (with_reducible refine CondX.beq (fun c => ?_) (fun c => ?_)) <;> try (exfalso; omega)
        | (with_reducible refine CondX.bne (fun c => ?_) (fun c => ?_)) <;> try (exfalso; omega)
        | (with_reducible refine CondX.bool (fun c => ?_) (fun c => ?_)) <;> try (exfalso; omega)
        | simp only [go_sem, I_eq, I_cells, fr3.at, fr2.at, fr1.at, fr.at, p4, q7, q6, w2, hdec, hg, Nat.reduceAdd, Nat.reduceBEq, Nat.reduceEqDiff, Nat.reduceLeDiff, Nat.reduceLT, Nat.reduceSub]
        | simp (disch := omega) only [wrap_in, toNat_succ, toNat_pred, Int.toNat_natCast]
        | with_reducible refine And.intro (by omega) ?_
        | with_reducible refine exI (by omega) ?_
        | fail
      · rw [hbad (fun e => by have := hdx e.2.2.1; omega)]
        exact ⟨rfl, by rw [hH3]; exact Keeps.refl _⟩
      · rw [hbad (fun e => by have := hdx e.2.2.1; omega)]
        exact ⟨rfl, by rw [hH3]; exact Keeps.refl _⟩
      · have hxd : digit x = true := by unfold digit; simp only [Bool.and_eq_true, decide_eq_true_eq]; omega
        have hal : (d.take (j + 1)).all digit = true := by rw [htk, List.all_append, hdg]; simp [hxd]
        have hvl2 := valN_bound hal (by rw [List.length_take]; omega)
        rw [hvn] at hvl2
        refine ⟨k - 1, by omega, j + 1, by omega, hH3, rfl, ?_, hal⟩
        rw [hvn, hu8 (by omega), show IntKind.i64.wrap ((n : Int) * 10) = (n : Int) * 10 from IntWalk.i64_in _ (by omega), IntWalk.i64_in _ (by omega)]
        congr 1
    · have hdec : decide (((a + j : Nat) : Int) < (w.length : Int)) = false := decide_eq_false (by omega)
      have hje : j = d.length := by omega
      repeat' first
        | (with_reducible refine CondX.dec (fun c => ?_) (fun c => ?_)) <;> try (exfalso; omega)
        | (with_reducible refine CondX.beq (fun c => ?_) (fun c => ?_)) <;> try (exfalso; omega)
        | (with_reducible refine CondX.bne (fun c => ?_) (fun c => ?_)) <;> try (exfalso; omega)
        | (with_reducible refine CondX.bool (fun c => ?_) (fun c => ?_)) <;> try (exfalso; omega)
        | simp only [go_sem, I_eq, I_cells, fr3.at, fr2.at, fr1.at, fr.at, p4, q7, q6, w2, hdec, Nat.reduceAdd, Nat.reduceBEq, Nat.reduceEqDiff, Nat.reduceLeDiff, Nat.reduceLT, Nat.reduceSub]
        | simp (disch := omega) only [wrap_in, toNat_succ, toNat_pred, Int.toNat_natCast]
        | with_reducible refine And.intro (by omega) ?_
        | with_reducible refine exI (by omega) ?_
        | fail
      rw [hje, List.take_length] at hdg ⊢
      exact ⟨rfl, hdg⟩
  rintro s3 fr3 ⟨hH3, q6, hdg⟩
  have hn := num_some (w := w) (by rw [hde]; exact hne) (by rw [hde]; exact h18) (by rw [hde]; exact hdg) (by rw [hde]; exact h48)
  have hvl := valN_bound hdg h18
  rw [num_val hn]
  unfold numV
  rw [hde]
  have w3 : IntKind.i64.wrap (0 - ((valN 0 d : Nat) : Int)) = - ((valN 0 d : Nat) : Int) := by rw [IntWalk.i64_in _ (by omega)]; omega
  repeat' first
    | (with_reducible refine CondX.dec (fun c => ?_) (fun c => ?_)) <;> try (exfalso; omega)
    | (with_reducible refine CondX.beq (fun c => ?_) (fun c => ?_)) <;> try (exfalso; omega)
    | (with_reducible refine CondX.bne (fun c => ?_) (fun c => ?_)) <;> try (exfalso; omega)
    | (with_reducible refine CondX.bool (fun c => ?_) (fun c => ?_)) <;> try (exfalso; omega)
    | simp only [go_sem, I_eq, I_cells, fr3.at, fr2.at, fr1.at, fr.at, p4, q6, w3, Nat.reduceAdd, Nat.reduceBEq, Nat.reduceEqDiff, Nat.reduceLeDiff, Nat.reduceLT, Nat.reduceSub]
    | simp (disch := omega) only [wrap_in, toNat_succ, toNat_pred, Int.toNat_natCast]
    | with_reducible refine And.intro (by omega) ?_
    | with_reducible refine exI (by omega) ?_
    | fail
  · have hng : neg w = true := by
      rw [← ha] at c
      by_cases h1 : neg w = true
      · exact h1
      · rw [if_neg h1] at c; simp at c
    rw [if_pos hng]
    exact ⟨rfl, by rw [hH3]; exact Keeps.refl _⟩
  · have hng : ¬ neg w = true := fun h1 => by
      rw [← ha, if_pos h1] at c; exact c rfl
    rw [if_neg hng]
    exact ⟨rfl, by rw [hH3]; exact Keeps.refl _⟩
end Go.Proofs.YtocfaflghcgniaaDoor
/- The document's made and told. -/
namespace Go.Sc
def getF (s : Stp) (f : Int) : Int := if f = 0 then s.node else if f = 1 then s.obj else if f = 2 then s.i else s.j
/-- The numbers that a step's line tells. -/
def toldL (s : Stp) : List Int := (fieldsL s.kind).map (getF s)
def madeV (k : Nat) (xs : List Int) : Stp := if xs.length = arity k then made k xs else ⟨k, 0, 0, 0, 0⟩
theorem madeV_ne {k : Nat} {xs : List Int} (h : xs.length ≠ arity k) : madeV k xs = ⟨k, 0, 0, 0, 0⟩ := if_neg h
theorem madeV_eq {k : Nat} {xs : List Int} (h : xs.length = arity k) : madeV k xs = made k xs := if_pos h
end Go.Sc
namespace Go.Proofs.YtocfaflghcgniaaDoor
open Go Go.T Go.Proofs Go.Sc Go.RowKit
set_option linter.unusedSimpArgs false
set_option linter.unusedVariables false
set_option maxRecDepth 10000
set_option maxHeartbeats 4000000
theorem made_spec (k : Nat) (xs : List Int) (ex : Bool) (h0 : k ≠ 0) (h : k ≤ 11) (hx : xs.length ≤ 100000) : PureF Tryd.prog 27 [.int .i64 k, .l ex 1 (xs.map I)] (.tup [encP (madeV k xs), .bool (decide (xs.length = arity k))]) := by
  have key : ∀ n, arity k = n → n ≠ xs.length → AV.tup [encP (madeV k xs), .bool (decide (xs.length = arity k))] = .tup [encP ⟨k, 0, 0, 0, 0⟩, .bool false] := fun n h1 h2 => by
    rw [madeV_ne (by omega), decide_eq_false (by omega)]
  have key2 : ∀ n, arity k = n → n = xs.length → AV.tup [encP (madeV k xs), .bool (decide (xs.length = arity k))] = .tup [encP (made k xs), .bool true] := fun n h1 h2 => by
    rw [madeV_eq (by omega), decide_eq_true (by omega)]
  refine PureF.of_awp mixed (fun _ => []) (fn := Tryd.f27) (by kernel_rfl) rfl (by kernel_rfl) (by show 2 ≤ _; decide) (by simp [AV.lf, AV.lfs, encP_lf]) (fun h => ?_)
  repeat' first
    | (with_reducible refine CondX.dec (fun c => ?_) (fun c => ?_)) <;> try (exfalso; omega)
    | (with_reducible refine CondX.beq (fun c => ?_) (fun c => ?_)) <;> try (exfalso; omega)
    | (with_reducible refine CondX.bne (fun c => ?_) (fun c => ?_)) <;> try (exfalso; omega)
    | (with_reducible refine CondX.bool (fun c => ?_) (fun c => ?_)) <;> try (exfalso; omega)
    | simp only [go_sem, I_eq, I_cells, List.getElem_map, I_cells, Nat.reduceAdd, Nat.reduceBEq, Nat.reduceEqDiff, Nat.reduceLeDiff, Nat.reduceLT, Nat.reduceSub]
    | simp (disch := omega) only [wrap_in, toNat_succ, toNat_pred, Int.toNat_natCast]
    | with_reducible refine And.intro (by omega) ?_
    | with_reducible refine exI (by omega) ?_
    | fail
  all_goals rcases kinds h0 (by assumption) with rfl | rfl | rfl | rfl | rfl | rfl | rfl | rfl | rfl | rfl | rfl
  all_goals first
    | (exfalso; omega)
    | (rw [key 2 rfl (by omega)]; exact ⟨rfl, by ((repeat first | with_reducible apply Keeps.alloc | (with_reducible refine Keeps.set ?_ ?hL _; case hL => first | assumption | exact Hp.ok _ _ (by simp) | exact Keeps.new (by assumption) _ _)); first | assumption | exact Keeps.refl _)⟩)
    | (rw [key 1 rfl (by omega)]; exact ⟨rfl, by ((repeat first | with_reducible apply Keeps.alloc | (with_reducible refine Keeps.set ?_ ?hL _; case hL => first | assumption | exact Hp.ok _ _ (by simp) | exact Keeps.new (by assumption) _ _)); first | assumption | exact Keeps.refl _)⟩)
    | (rw [key 3 rfl (by omega)]; exact ⟨rfl, by ((repeat first | with_reducible apply Keeps.alloc | (with_reducible refine Keeps.set ?_ ?hL _; case hL => first | assumption | exact Hp.ok _ _ (by simp) | exact Keeps.new (by assumption) _ _)); first | assumption | exact Keeps.refl _)⟩)
    | (obtain ⟨a, b, rfl⟩ := len2 (xs := xs) (by omega); rw [key2 _ rfl rfl]; exact ⟨rfl, by ((repeat first | with_reducible apply Keeps.alloc | (with_reducible refine Keeps.set ?_ ?hL _; case hL => first | assumption | exact Hp.ok _ _ (by simp) | exact Keeps.new (by assumption) _ _)); first | assumption | exact Keeps.refl _)⟩)
    | (obtain ⟨a, rfl⟩ := len1 (xs := xs) (by omega); rw [key2 _ rfl rfl]; exact ⟨rfl, by ((repeat first | with_reducible apply Keeps.alloc | (with_reducible refine Keeps.set ?_ ?hL _; case hL => first | assumption | exact Hp.ok _ _ (by simp) | exact Keeps.new (by assumption) _ _)); first | assumption | exact Keeps.refl _)⟩)
    | (obtain ⟨a, b, d, rfl⟩ := len3 (xs := xs) (by omega); rw [key2 _ rfl rfl]; exact ⟨rfl, by ((repeat first | with_reducible apply Keeps.alloc | (with_reducible refine Keeps.set ?_ ?hL _; case hL => first | assumption | exact Hp.ok _ _ (by simp) | exact Keeps.new (by assumption) _ _)); first | assumption | exact Keeps.refl _)⟩)
end Go.Proofs.YtocfaflghcgniaaDoor
/- script.Parse. -/
namespace Go.Sc
theorem cut_len (c : UInt8) : ∀ l : Bs, (cut c l).length ≤ l.length + 1 := by
  intro l
  induction l with
  | nil => simp [cut]
  | cons x r ih =>
    unfold cut
    by_cases hx : x = c
    · simp [hx]; omega
    · rw [if_neg hx]
      obtain ⟨p, q, h⟩ := cut_cons c r
      rw [h] at ih ⊢
      simp at ih ⊢; omega
theorem cut_piece (c : UInt8) : ∀ (l : Bs), ∀ p ∈ cut c l, p.length ≤ l.length := by
  intro l
  induction l with
  | nil => intro p hp; simp [cut] at hp; subst hp; simp
  | cons x r ih =>
    intro p hp
    unfold cut at hp
    by_cases hx : x = c
    · rw [if_pos hx] at hp
      rcases List.mem_cons.1 hp with rfl | hp
      · simp
      · have := ih p hp; simp; omega
    · rw [if_neg hx] at hp
      obtain ⟨y, q, h⟩ := cut_cons c r
      rw [h] at hp ih
      rcases List.mem_cons.1 hp with rfl | hp
      · have := ih y (by simp); simp; omega
      · have := ih p (by simp [hp]); simp; omega
theorem parseL_cons (mx : Nat) (l : Bs) (r : List Bs) (n : Nat) (out : List Stp) : parseL mx (l :: r) n out = if words l = [] then parseL mx r (n + 1) out else match lineR (words l) with
    | none => ([], n, 50)
    | some s => if out.length = mx then ([], n, 3) else parseL mx r (n + 1) (out ++ [s]) := by
  conv => lhs; unfold parseL
  rfl
theorem words_piece {l w : Bs} (h : w ∈ words l) : w.length ≤ l.length := by
  unfold words at h
  exact cut_piece 32 l w (List.mem_filter.1 h).1
theorem words_len (l : Bs) : (words l).length ≤ l.length + 1 := Nat.le_trans (List.length_filter_le _ _) (cut_len 32 l)
end Go.Sc
namespace Go.Proofs.YtocfaflghcgniaaDoor
open Go Go.T Go.Proofs Go.Sc Go.RowKit
set_option linter.unusedSimpArgs false
set_option linter.unusedVariables false
set_option maxRecDepth 10000
set_option maxHeartbeats 4000000
/-- What Parse answers: a list of its own. -/
def ParseR (h : Hp) (p : List Stp × Nat × Int) (r : AV) (H : Hp) : Prop := ∃ v, r = .tup [v, .int .i64 p.2.1, .int .i64 p.2.2] ∧ Acc h H 5 v (p.1.map encP) ∧ Keeps h H
def T10 : Nat → List Tg := fun id => if id = 16 then [.avoid [2, 3, 4], .mine, .mine, .mine] else if id = 18 then [.avoid [2, 3, 4], .mine, .mine, .mine] else []

theorem Parse_spec (t : Bs) (h : Hp) : CallK Tryd.prog 10 [strV t] h (ParseR h (parse 65536 4096 t)) := by
  refine CallK.of_awpH mixed T10 (fn := Tryd.f10) (by kernel_rfl) rfl (by kernel_rfl) (by show 1 ≤ _; decide) ?_
  rw [awp_seq_scope, awp_assoc, awp_assoc, awp_assoc, awp_assoc, awp_mid]
  refine awp_cut (fun s => t.length ≤ 65536 ∧ s.slots 2 = .pt ⟨10, 2, h.cnt 10 2⟩ 0 0 0 ∧ s.slots 3 = .pt ⟨10, 3, h.cnt 10 3⟩ 0 0 0 ∧ s.slots 4 = .pt ⟨10, 4, h.cnt 10 4⟩ 0 0 0 ∧ s.slots 5 = .pt ⟨10, 5, h.cnt 10 5⟩ 0 0 0 ∧ s.slots 6 = .pt ⟨10, 6, h.cnt 10 6⟩ 0 0 0 ∧
    s.hp.con ⟨10, 2, h.cnt 10 2⟩ = .blk [.l true 0 []] ∧ s.hp.con ⟨10, 3, h.cnt 10 3⟩ = .blk [.int .i64 0] ∧ s.hp.con ⟨10, 4, h.cnt 10 4⟩ = .blk [.int .i64 0] ∧ s.hp.con ⟨10, 5, h.cnt 10 5⟩ = .blk [.l true 0 []] ∧ s.hp.con ⟨10, 6, h.cnt 10 6⟩ = .blk [.int .i64 0] ∧ Keeps h s.hp ∧
    ∃ a b c, s.slots 16 = AV.fn (.func 35) [.pt ⟨28, 4, b⟩ 0 0 0, .pt ⟨28, 3, a⟩ 0 0 0, .pt ⟨28, 5, c⟩ 0 0 0] ∧ h.con ⟨28, 3, a⟩ = .none ∧ s.hp.con ⟨28, 3, a⟩ = .blk [strV t] ∧ s.hp.con ⟨28, 4, b⟩ = .blk [strV [10]] ∧ s.hp.con ⟨28, 5, c⟩ = .blk [.int .i64 0]) ?_ ?_
  · repeat' first
      | (with_reducible refine CondX.dec (fun c => ?_) (fun c => ?_)) <;> try (exfalso; omega)
      | (with_reducible refine CondX.beq (fun c => ?_) (fun c => ?_)) <;> try (exfalso; omega)
      | (with_reducible refine CondX.bne (fun c => ?_) (fun c => ?_)) <;> try (exfalso; omega)
      | (with_reducible refine CondX.bool (fun c => ?_) (fun c => ?_)) <;> try (exfalso; omega)
      | simp only [go_sem, I_eq, I_cells, T10, Nat.reduceAdd, Nat.reduceBEq, Nat.reduceEqDiff, Nat.reduceLeDiff, Nat.reduceLT, Nat.reduceSub]
      | simp (disch := omega) only [wrap_in, toNat_succ, toNat_pred, Int.toNat_natCast]
      | with_reducible refine And.intro (by omega) ?_
      | with_reducible refine exI (by omega) ?_
      | fail
    · have hp : parse 65536 4096 t = ([], 0, 3) := by unfold parse; rw [if_pos (by omega)]
      rw [hp]
      exact ⟨_, rfl, .nil, by ((repeat first | with_reducible apply Keeps.alloc | (with_reducible refine Keeps.set ?_ ?hL _; case hL => first | assumption | exact Hp.ok _ _ (by simp) | exact Keeps.new (by assumption) _ _)); first | assumption | exact Keeps.refl _)⟩
    · refine CallX.of ((SplitSeq_spec t [10] _).mono ?_)
      rintro r H ⟨gk, a, b, c, rfl, g3, g4, g5, gn⟩
      have old : ∀ n cs, (((((h.alloc 10 2 (.blk [.l true 0 []])).alloc 10 3 (.blk [.int .i64 0])).alloc 10 4 (.blk [.int .i64 0])).alloc 10 5 (.blk [.l true 0 []])).alloc 10 6 (.blk [.int .i64 0])).con ⟨10, n, h.cnt 10 n⟩ = .blk cs → H.con ⟨10, n, h.cnt 10 n⟩ = .blk cs := fun n cs hc => by
        rcases gk ⟨10, n, h.cnt 10 n⟩ with h1 | h1
        · rw [h1] at hc; cases hc
        · rw [h1, hc]
      repeat' first
        | (with_reducible refine CondX.dec (fun c => ?_) (fun c => ?_)) <;> try (exfalso; omega)
        | (with_reducible refine CondX.beq (fun c => ?_) (fun c => ?_)) <;> try (exfalso; omega)
        | (with_reducible refine CondX.bne (fun c => ?_) (fun c => ?_)) <;> try (exfalso; omega)
        | (with_reducible refine CondX.bool (fun c => ?_) (fun c => ?_)) <;> try (exfalso; omega)
        | simp only [go_sem, I_eq, I_cells, T10, Nat.reduceAdd, Nat.reduceBEq, Nat.reduceEqDiff, Nat.reduceLeDiff, Nat.reduceLT, Nat.reduceSub]
        | simp (disch := omega) only [wrap_in, toNat_succ, toNat_pred, Int.toNat_natCast]
        | with_reducible refine And.intro (by omega) ?_
        | with_reducible refine exI (by omega) ?_
        | fail
      have hK : Keeps h H := by
        intro L
        rcases gk L with h1 | h1
        · left
          by_cases hL : h.con L = .none
          · exact hL
          · exfalso
            have kp : Keeps h (((((h.alloc 10 2 (.blk [.l true 0 []])).alloc 10 3 (.blk [.int .i64 0])).alloc 10 4 (.blk [.int .i64 0])).alloc 10 5 (.blk [.l true 0 []])).alloc 10 6 (.blk [.int .i64 0])) := by ((repeat first | with_reducible apply Keeps.alloc | (with_reducible refine Keeps.set ?_ ?hL _; case hL => first | assumption | exact Hp.ok _ _ (by simp) | exact Keeps.new (by assumption) _ _)); first | assumption | exact Keeps.refl _)
            rcases kp L with h2 | h2
            · exact hL h2
            · rw [h2] at h1; exact hL h1
        · rw [h1]
          exact Keeps.alloc (Keeps.alloc (Keeps.alloc (Keeps.alloc (Keeps.alloc (Keeps.refl h) _ _ _) _ _ _) _ _ _) _ _ _) _ _ _ L
      simp only [go_sem, I_eq, I_cells, Nat.reduceAdd, Nat.reduceBEq, Nat.reduceEqDiff, Nat.reduceLeDiff, Nat.reduceLT, Nat.reduceSub] at gn
      exact ⟨old 2 _ (by simp only [go_sem, I_eq, I_cells, Nat.reduceAdd, Nat.reduceBEq, Nat.reduceEqDiff, Nat.reduceLeDiff, Nat.reduceLT, Nat.reduceSub]), old 3 _ (by simp only [go_sem, I_eq, I_cells, Nat.reduceAdd, Nat.reduceBEq, Nat.reduceEqDiff, Nat.reduceLeDiff, Nat.reduceLT, Nat.reduceSub]), old 4 _ (by simp only [go_sem, I_eq, I_cells, Nat.reduceAdd, Nat.reduceBEq, Nat.reduceEqDiff, Nat.reduceLeDiff, Nat.reduceLT, Nat.reduceSub]), old 5 _ (by simp only [go_sem, I_eq, I_cells, Nat.reduceAdd, Nat.reduceBEq, Nat.reduceEqDiff, Nat.reduceLeDiff, Nat.reduceLT, Nat.reduceSub]), old 6 _ (by simp only [go_sem, I_eq, I_cells, Nat.reduceAdd, Nat.reduceBEq, Nat.reduceEqDiff, Nat.reduceLeDiff, Nat.reduceLT, Nat.reduceSub]), hK, a, b, c, rfl, gn, g3, g4, g5⟩
  rintro s ⟨ht, p2, p3, p4, p5, p6, k2, k3, k4, k5, k6, gK, a, b, c, p16, ga, q3, q4, q5⟩
  obtain ⟨R, hR⟩ : ∃ R, parse 65536 4096 t = R := ⟨_, rfl⟩
  rw [hR]
  unfold parse at hR
  rw [if_neg (by omega)] at hR
  obtain ⟨ls, hls⟩ : ∃ ls, cut 10 t = ls := ⟨_, rfl⟩
  have hlsl : ls.length ≤ 65537 := by have := cut_len 10 t; rw [hls] at this; omega
  have hlp : ∀ p ∈ ls, p.length ≤ 65536 := fun p hp => by have := cut_piece 10 t p (by rw [hls]; exact hp); omega
  have it := splitSeq_iter t 10 a b c ht
  rw [hls] at hR it
  repeat' first
    | (with_reducible refine CondX.dec (fun c => ?_) (fun c => ?_)) <;> try (exfalso; omega)
    | (with_reducible refine CondX.beq (fun c => ?_) (fun c => ?_)) <;> try (exfalso; omega)
    | (with_reducible refine CondX.bne (fun c => ?_) (fun c => ?_)) <;> try (exfalso; omega)
    | (with_reducible refine CondX.bool (fun c => ?_) (fun c => ?_)) <;> try (exfalso; omega)
    | simp only [go_sem, I_eq, I_cells, T10, p16, Nat.reduceAdd, Nat.reduceBEq, Nat.reduceEqDiff, Nat.reduceLeDiff, Nat.reduceLT, Nat.reduceSub]
    | simp (disch := omega) only [wrap_in, toNat_succ, toNat_pred, Int.toNat_natCast]
    | with_reducible refine And.intro (by omega) ?_
    | with_reducible refine exI (by omega) ?_
    | fail
  refine iter_ruleL (fid := 10) (ps := [17]) (T := T10) mixed it ?_ (by simp) (by decide) rfl (of_decide_eq_true (by kernel_rfl)) (by kernel_rfl) (by kernel_rfl) (fun x hx => by obtain ⟨y, _, rfl⟩ := List.mem_map.1 hx; rfl)
    (fun j q => ∃ v out, q.con ⟨10, 2, h.cnt 10 2⟩ = .blk [.l true 0 []] ∧ q.con ⟨10, 3, h.cnt 10 3⟩ = .blk [.int .i64 0] ∧ q.con ⟨10, 4, h.cnt 10 4⟩ = .blk [.int .i64 0] ∧ q.con ⟨10, 5, h.cnt 10 5⟩ = .blk [v] ∧ q.con ⟨10, 6, h.cnt 10 6⟩ = .blk [.int .i64 (j : Nat)] ∧ Acc h q 5 v (out.map encP) ∧ (∀ L, v = .os L → L.f = 10 ∧ L.s = 49) ∧ Keeps h q ∧ parseL 4096 (ls.drop j) (j + 1) out = R ∧ out.length ≤ 4096)
    (fun x q => match x with | .ret => q.con ⟨10, 2, h.cnt 10 2⟩ = .blk [.l true 0 []] ∧ q.con ⟨10, 3, h.cnt 10 3⟩ = .blk [.int .i64 R.2.1] ∧ q.con ⟨10, 4, h.cnt 10 4⟩ = .blk [.int .i64 R.2.2] ∧ R.1 = [] ∧ Keeps h q | _ => False) ?_ ?_ ?_ ?_ ?_ ?_ _
  · intro p hp
    simp only [List.mem_cons, List.not_mem_nil, or_false] at hp
    rcases hp with rfl | rfl | rfl
    · exact ⟨by simp, q3⟩
    · exact ⟨by simp, q4⟩
    · exact ⟨by simp, q5⟩
  · rintro j q q' ⟨v, out, k2, k3, k4, k5, k6, ga, gv, gk, hd, hl⟩ hs
    have e := fun (a b : Nat) (ha : a < 1000000) => hs ⟨10, a, b⟩ (.inr ⟨by simp, nlp ha⟩)
    exact ⟨v, out, by rw [e _ _ (by decide), k2], by rw [e _ _ (by decide), k3], by rw [e _ _ (by decide), k4], by rw [e _ _ (by decide), k5], by rw [e _ _ (by decide), k6],
      hs.acc ga (fun L hL => by obtain ⟨h1, h2⟩ := gv L hL; rw [h1, h2]; exact ⟨by simp, nlp (by decide)⟩), gv, hs.keeps (gK.set ‹_› _) gk, hd, hl⟩
  · rintro x q q' hD hs
    have e := fun (a b : Nat) (ha : a < 1000000) => hs ⟨10, a, b⟩ (.inr ⟨by simp, nlp ha⟩)
    cases x with
    | ret =>
      obtain ⟨k2, k3, k4, hr, gk⟩ := hD
      exact ⟨by rw [e _ _ (by decide), k2], by rw [e _ _ (by decide), k3], by rw [e _ _ (by decide), k4], hr, hs.keeps (gK.set ‹_› _) gk⟩
    | normal => exact hD.elim
    | exit id => exact hD.elim
  · exact ⟨_, [], k2, k3, k4, k5, k6, .nil, (fun L hL => by cases hL), gK, by rw [List.drop_zero]; exact hR, by simp⟩
  · clear k2 k3 k4 k5 k6
    rintro j hj q ⟨v, out, k2, k3, k4, k5, k6, ga', gv, gk, hd, hl⟩
    rw [List.length_map] at hj
    rw [List.getElem_map]
    refine awp_asgF [(7, 7)] (by kernel_rfl) (fun s => s.slots 7 = strV ls[j] ∧ s.hp = q) ?_ ?_
    · simp only [go_sem, I_eq, I_cells, T10, Nat.reduceAdd, Nat.reduceBEq, Nat.reduceEqDiff, Nat.reduceLeDiff, Nat.reduceLT, Nat.reduceSub]
    rintro s1 fr1 ⟨p7, rfl⟩
    have gk0 := gk
    have w1 : IntKind.i64.wrap ((j : Int) + 1) = ((j + 1 : Nat) : Int) := by rw [IntWalk.i64_in _ (by omega)]; simp
    rw [drop_cons hj] at hd
    have hpl := hlp _ (List.getElem_mem hj)
    obtain ⟨l, hle⟩ : ∃ l, ls[j] = l := ⟨_, rfl⟩
    rw [hle] at p7 hpl hd
    rw [awp_block, awp_assoc, awp_mid]
    refine awp_cutF [(8, 8), (18, 21)] (by kernel_rfl) (fun s => s.slots 8 = .pt ⟨10, 8, s1.hp.cnt 10 8⟩ 0 0 0 ∧ s.hp.con ⟨10, 8, s1.hp.cnt 10 8⟩ = .blk [.l true 0 []] ∧
      s.hp.con ⟨10, 2, h.cnt 10 2⟩ = .blk [.l true 0 []] ∧ s.hp.con ⟨10, 3, h.cnt 10 3⟩ = .blk [.int .i64 0] ∧ s.hp.con ⟨10, 4, h.cnt 10 4⟩ = .blk [.int .i64 0] ∧ s.hp.con ⟨10, 5, h.cnt 10 5⟩ = .blk [v] ∧ s.hp.con ⟨10, 6, h.cnt 10 6⟩ = .blk [.int .i64 ((j + 1 : Nat) : Int)] ∧ Acc h s.hp 5 v (out.map encP) ∧ Keeps h s.hp ∧ KeepsF [28] s1.hp s.hp ∧
      ∃ a b c, s.slots 21 = AV.fn (.func 35) [.pt ⟨28, 4, b⟩ 0 0 0, .pt ⟨28, 3, a⟩ 0 0 0, .pt ⟨28, 5, c⟩ 0 0 0] ∧ s1.hp.con ⟨28, 3, a⟩ = .none ∧ h.con ⟨28, 3, a⟩ = .none ∧ s.hp.con ⟨28, 3, a⟩ = .blk [strV l] ∧ s.hp.con ⟨28, 4, b⟩ = .blk [strV [32]] ∧ s.hp.con ⟨28, 5, c⟩ = .blk [.int .i64 0]) ?_ ?_
    · repeat' first
        | (with_reducible refine CondX.dec (fun c => ?_) (fun c => ?_)) <;> try (exfalso; omega)
        | (with_reducible refine CondX.beq (fun c => ?_) (fun c => ?_)) <;> try (exfalso; omega)
        | (with_reducible refine CondX.bne (fun c => ?_) (fun c => ?_)) <;> try (exfalso; omega)
        | (with_reducible refine CondX.bool (fun c => ?_) (fun c => ?_)) <;> try (exfalso; omega)
        | simp only [go_sem, I_eq, I_cells, T10, fr1.at, p2, p3, p4, p5, p6, p7, k2, k3, k4, k5, k6, w1, Nat.reduceAdd, Nat.reduceBEq, Nat.reduceEqDiff, Nat.reduceLeDiff, Nat.reduceLT, Nat.reduceSub]
        | simp (disch := omega) only [wrap_in, toNat_succ, toNat_pred, Int.toNat_natCast]
        | with_reducible refine And.intro (by omega) ?_
        | with_reducible refine exI (by omega) ?_
        | fail
      obtain ⟨H1, hH1⟩ : ∃ H1, ((s1.hp.set ⟨10, 6, h.cnt 10 6⟩ (.blk [.int .i64 ((j + 1 : Nat) : Int)])).alloc 10 8 (.blk [.l true 0 []])) = H1 := ⟨_, rfl⟩
      have c8 : H1.con ⟨10, 8, s1.hp.cnt 10 8⟩ = .blk [.l true 0 []] := by rw [← hH1]; simp only [go_sem, I_eq, I_cells, Nat.reduceAdd, Nat.reduceBEq, Nat.reduceEqDiff, Nat.reduceLeDiff, Nat.reduceLT, Nat.reduceSub]
      have c2 : H1.con ⟨10, 2, h.cnt 10 2⟩ = .blk [.l true 0 []] := by rw [← hH1]; simp only [go_sem, I_eq, I_cells, k2, Nat.reduceAdd, Nat.reduceBEq, Nat.reduceEqDiff, Nat.reduceLeDiff, Nat.reduceLT, Nat.reduceSub]
      have c3 : H1.con ⟨10, 3, h.cnt 10 3⟩ = .blk [.int .i64 0] := by rw [← hH1]; simp only [go_sem, I_eq, I_cells, k3, Nat.reduceAdd, Nat.reduceBEq, Nat.reduceEqDiff, Nat.reduceLeDiff, Nat.reduceLT, Nat.reduceSub]
      have c4 : H1.con ⟨10, 4, h.cnt 10 4⟩ = .blk [.int .i64 0] := by rw [← hH1]; simp only [go_sem, I_eq, I_cells, k4, Nat.reduceAdd, Nat.reduceBEq, Nat.reduceEqDiff, Nat.reduceLeDiff, Nat.reduceLT, Nat.reduceSub]
      have c5 : H1.con ⟨10, 5, h.cnt 10 5⟩ = .blk [v] := by rw [← hH1]; simp only [go_sem, I_eq, I_cells, k5, Nat.reduceAdd, Nat.reduceBEq, Nat.reduceEqDiff, Nat.reduceLeDiff, Nat.reduceLT, Nat.reduceSub]
      have c6 : H1.con ⟨10, 6, h.cnt 10 6⟩ = .blk [.int .i64 ((j + 1 : Nat) : Int)] := by rw [← hH1]; simp only [go_sem, I_eq, I_cells, k6, Nat.reduceAdd, Nat.reduceBEq, Nat.reduceEqDiff, Nat.reduceLeDiff, Nat.reduceLT, Nat.reduceSub]
      have cK : Keeps h H1 := by rw [← hH1]; exact (gk.set (h.ok _ (by simp)) _).alloc _ _ _
      have cF : KeepsF [28] s1.hp H1 := by rw [← hH1]; exact ((KeepsF.refl _ _).set (by simp) _).alloc _ _ _
      have cA : Acc h H1 5 v (out.map encP) := by
        rw [← hH1]
        refine (ga'.mono fun L hL => ?_).alloc _ _ _
        obtain ⟨h1, h2⟩ := gv L hL
        have e : L ≠ ⟨10, 6, h.cnt 10 6⟩ := fun e => by rw [e] at h2; simp at h2
        simp [Hp.set, e]
      have cn : ∀ x, H1.con ⟨28, 3, x⟩ = .none → s1.hp.con ⟨28, 3, x⟩ = .none := fun x hx => by rw [← hH1] at hx; simp only [go_sem, I_eq, I_cells, Nat.reduceAdd, Nat.reduceBEq, Nat.reduceEqDiff, Nat.reduceLeDiff, Nat.reduceLT, Nat.reduceSub] at hx; exact hx
      rw [hH1]
      refine CallX.of ((SplitSeq_spec l [32] _).mono ?_)
      rintro r H ⟨gk2, a, b, c, rfl, g3, g4, g5, gn⟩
      repeat' first
        | (with_reducible refine CondX.dec (fun c => ?_) (fun c => ?_)) <;> try (exfalso; omega)
        | (with_reducible refine CondX.beq (fun c => ?_) (fun c => ?_)) <;> try (exfalso; omega)
        | (with_reducible refine CondX.bne (fun c => ?_) (fun c => ?_)) <;> try (exfalso; omega)
        | (with_reducible refine CondX.bool (fun c => ?_) (fun c => ?_)) <;> try (exfalso; omega)
        | simp only [go_sem, I_eq, I_cells, T10, Nat.reduceAdd, Nat.reduceBEq, Nat.reduceEqDiff, Nat.reduceLeDiff, Nat.reduceLT, Nat.reduceSub]
        | simp (disch := omega) only [wrap_in, toNat_succ, toNat_pred, Int.toNat_natCast]
        | with_reducible refine And.intro (by omega) ?_
        | with_reducible refine exI (by omega) ?_
        | fail
      exact ⟨gk2.cons c8 (by simp), gk2.cons c2 (by simp), gk2.cons c3 (by simp), gk2.cons c4 (by simp), gk2.cons c5 (by simp), gk2.cons c6 (by simp), cA.keep gk2, cK.trans gk2, cF.trans (KeepsF.keeps gk2), a, b, c, rfl, cn _ gn, cK.gone gn, g3, g4, g5⟩
    clear k2 k3 k4 k5 k6 ga' gk q3 q4 q5 p16
    rintro s2 fr2 ⟨p8, k8, k2, k3, k4, k5, k6, ga1, gk1, gf, a', b', c', p21, gn1, gn2, q3, q4, q5⟩
    have it2 := splitSeq_iter l 32 a' b' c' hpl
    obtain ⟨pc, hpc⟩ : ∃ pc, cut 32 l = pc := ⟨_, rfl⟩
    have hpcl : pc.length ≤ 65537 := by have := cut_len 32 l; rw [hpc] at this; omega
    have hpcp : ∀ p ∈ pc, p.length ≤ 65536 := fun p hp => by have := cut_piece 32 l p (by rw [hpc]; exact hp); omega
    rw [hpc] at it2
    have hwd : words l = pc.filter (fun w => !w.isEmpty) := by unfold words; rw [hpc]
    repeat' first
      | (with_reducible refine CondX.dec (fun c => ?_) (fun c => ?_)) <;> try (exfalso; omega)
      | (with_reducible refine CondX.beq (fun c => ?_) (fun c => ?_)) <;> try (exfalso; omega)
      | (with_reducible refine CondX.bne (fun c => ?_) (fun c => ?_)) <;> try (exfalso; omega)
      | (with_reducible refine CondX.bool (fun c => ?_) (fun c => ?_)) <;> try (exfalso; omega)
      | simp only [go_sem, I_eq, I_cells, T10, p21, Nat.reduceAdd, Nat.reduceBEq, Nat.reduceEqDiff, Nat.reduceLeDiff, Nat.reduceLT, Nat.reduceSub]
      | simp (disch := omega) only [wrap_in, toNat_succ, toNat_pred, Int.toNat_natCast]
      | with_reducible refine And.intro (by omega) ?_
      | with_reducible refine exI (by omega) ?_
      | fail
    refine iter_ruleL (fid := 10) (ps := [22]) (T := T10) mixed it2 ?_ (by simp) (by decide) rfl (of_decide_eq_true (by kernel_rfl)) (by kernel_rfl) (by kernel_rfl) (fun x hx => by obtain ⟨y, _, rfl⟩ := List.mem_map.1 hx; rfl)
      (fun i g => ∃ v2, g.con ⟨10, 8, s1.hp.cnt 10 8⟩ = .blk [v2] ∧ Acc h g 1 v2 (((pc.take i).filter (fun w => !w.isEmpty)).map strV) ∧ (∀ L, v2 = .os L → L.f = 10 ∧ L.s = 28) ∧
        g.con ⟨10, 2, h.cnt 10 2⟩ = .blk [.l true 0 []] ∧ g.con ⟨10, 3, h.cnt 10 3⟩ = .blk [.int .i64 0] ∧ g.con ⟨10, 4, h.cnt 10 4⟩ = .blk [.int .i64 0] ∧ g.con ⟨10, 5, h.cnt 10 5⟩ = .blk [v] ∧ g.con ⟨10, 6, h.cnt 10 6⟩ = .blk [.int .i64 ((j + 1 : Nat) : Int)] ∧ Acc h g 5 v (out.map encP) ∧ Keeps h g ∧ KeepsF [28] s1.hp g)
      (fun _ _ => False) ?_ (fun _ _ _ hf => hf.elim) ?_ ?_ ?_ (fun _ _ _ hf => hf.elim) _
    · intro p hp
      simp only [List.mem_cons, List.not_mem_nil, or_false] at hp
      rcases hp with rfl | rfl | rfl
      · exact ⟨by simp, q3⟩
      · exact ⟨by simp, q4⟩
      · exact ⟨by simp, q5⟩
    · rintro i g g' ⟨v2, k8, ga2, gv2, k2, k3, k4, k5, k6, ga1, gk, gf1⟩ hs
      have e := fun (a b : Nat) (ha : a < 1000000) => hs ⟨10, a, b⟩ (.inr ⟨by simp, nlp ha⟩)
      exact ⟨v2, by rw [e _ _ (by decide), k8], hs.acc ga2 (fun L hL => by obtain ⟨h1, h2⟩ := gv2 L hL; rw [h1, h2]; exact ⟨by simp, nlp (by decide)⟩), gv2, by rw [e _ _ (by decide), k2], by rw [e _ _ (by decide), k3], by rw [e _ _ (by decide), k4], by rw [e _ _ (by decide), k5], by rw [e _ _ (by decide), k6],
        hs.acc ga1 (fun L hL => by obtain ⟨h1, h2⟩ := gv L hL; rw [h1, h2]; exact ⟨by simp, nlp (by decide)⟩), hs.keeps (gk1.set gn2 _) gk, gf.same gn1 gf1 hs⟩
    · exact ⟨_, k8, .nil, (fun L hL => by cases hL), k2, k3, k4, k5, k6, ga1, gk1, gf⟩
    · clear k8 k2 k3 k4 k5 k6 ga1
      rintro i hi g ⟨v2, k8, ga2, gv2, k2, k3, k4, k5, k6, ga1, gk, gf1⟩
      rw [List.length_map] at hi
      rw [List.getElem_map]
      have hpt : (pc.take (i + 1)).filter (fun w => !w.isEmpty) = (pc.take i).filter (fun w => !w.isEmpty) ++ (if pc[i] = [] then [] else [pc[i]]) := by
        rw [List.take_succ_eq_append_getElem hi, List.filter_append]
        congr 1
        cases h : pc[i] <;> simp
      rw [hpt]
      have h2l : ((pc.take i).filter (fun w => !w.isEmpty)).length ≤ 65537 := by
        have h1 := List.length_filter_le (fun w : Bs => !w.isEmpty) (pc.take i)
        rw [List.length_take] at h1; omega
      repeat' first
        | (with_reducible refine CondX.dec (fun c => ?_) (fun c => ?_)) <;> try (exfalso; omega)
        | (with_reducible refine CondX.beq (fun c => ?_) (fun c => ?_)) <;> try (exfalso; omega)
        | (with_reducible refine CondX.bne (fun c => ?_) (fun c => ?_)) <;> try (exfalso; omega)
        | (with_reducible refine CondX.bool (fun c => ?_) (fun c => ?_)) <;> try (exfalso; omega)
        | simp only [go_sem, I_eq, I_cells, T10, fr2.at, fr1.at, p2, p3, p4, p5, p6, p8, k2, k3, k4, k5, k6, k8, Nat.reduceAdd, Nat.reduceBEq, Nat.reduceEqDiff, Nat.reduceLeDiff, Nat.reduceLT, Nat.reduceSub]
        | simp (disch := omega) only [wrap_in, toNat_succ, toNat_pred, Int.toNat_natCast]
        | with_reducible refine And.intro (by omega) ?_
        | with_reducible refine exI (by omega) ?_
        | fail
      · rw [if_pos c, List.append_nil]
        exact ⟨KeepsF.refl _ _, v2, rfl, ga2, gv2, ga1, gk, gf1⟩
      · rw [if_neg c, List.map_append]
        refine ga2.app gk (by simp only [List.length_map, List.length_cons, List.length_nil]; omega) (by simp only [List.length_map, List.length_cons, List.length_nil]; omega) (by decide) fun H' v' a' kp' f1 f2 ev => ?_
        have d8 := f2 _ _ k8
        have d2 := f2 _ _ k2
        have d3 := f2 _ _ k3
        have d4 := f2 _ _ k4
        have d5 := f2 _ _ k5
        have d6 := f2 _ _ k6
        have kfa : KeepsF [28] g H' := KeepsF.app (KeepsF.refl _ _) f1 (fun L hL => by rw [(gv2 L hL).1]; simp)
        subst ev
        repeat' first
          | (with_reducible refine CondX.dec (fun c => ?_) (fun c => ?_)) <;> try (exfalso; omega)
          | (with_reducible refine CondX.beq (fun c => ?_) (fun c => ?_)) <;> try (exfalso; omega)
          | (with_reducible refine CondX.bne (fun c => ?_) (fun c => ?_)) <;> try (exfalso; omega)
          | (with_reducible refine CondX.bool (fun c => ?_) (fun c => ?_)) <;> try (exfalso; omega)
          | simp only [go_sem, I_eq, I_cells, T10, d8, d2, d3, d4, d5, d6, Nat.reduceAdd, Nat.reduceBEq, Nat.reduceEqDiff, Nat.reduceLeDiff, Nat.reduceLT, Nat.reduceSub]
          | simp (disch := omega) only [wrap_in, toNat_succ, toNat_pred, Int.toNat_natCast]
          | with_reducible refine And.intro (by omega) ?_
          | with_reducible refine exI (by omega) ?_
          | fail
        have vne : ∀ L, (v = .os L → L ≠ ⟨10, 8, s1.hp.cnt 10 8⟩) := fun L hL e => by
          obtain ⟨_, h2⟩ := gv L hL
          rw [e] at h2; simp at h2
        have a5 : Acc h H' 5 v (out.map encP) := ga1.mono fun L hL => by
          have hcL : g.con L ≠ .none := by
            subst hL
            rw [ga1.own'.1]; simp
          exact f1 L hcL (fun L2 hL2 e => by
            obtain ⟨_, h2⟩ := gv L hL
            obtain ⟨_, h3⟩ := gv2 L2 hL2
            rw [e, h3] at h2; simp at h2)
        have n8 : h.con ⟨10, 8, s1.hp.cnt 10 8⟩ = .none := gk0.new _ _
        refine ⟨kfa.set (by simp) _, _, rfl, a'.mono fun L hL => ?_, (fun L hL => by injection hL with hL; subst hL; exact ⟨rfl, rfl⟩), a5.mono fun L hL => ?_, kp'.set n8 _, (gf1.trans kfa).set (by simp) _⟩
        · injection hL with hL
          subst hL
          simp [Hp.set]
        · have := vne L hL
          simp [Hp.set, this]
    · clear k8 k2 k3 k4 k5 k6 ga1
      rintro g ⟨v2, k8, ga2, gv2, k2, k3, k4, k5, k6, ga1, gk, gf1⟩
      rw [List.length_map, List.take_length, ← hwd] at ga2
      rw [parseL_cons] at hd
      obtain ⟨ws, hws⟩ : ∃ ws, words l = ws := ⟨_, rfl⟩
      have hwl := words_len l
      have hwp : ∀ x ∈ ws, x.length ≤ 65536 := fun x hx => by have := words_piece (l := l) (by rw [hws]; exact hx); omega
      rw [hws] at ga2 hd hwl
      have fin : ∀ out', parseL 4096 (ls.drop (j + 1)) (j + 1 + 1) out' = R → True := fun _ _ => trivial
      obtain ⟨xs, hxs⟩ : ∃ xs, ws.map strV = xs := ⟨_, rfl⟩
      rw [hxs] at ga2
      cases ga2 with
      | nil =>
        have h0 : ws = [] := by simpa using hxs
        repeat' first
          | (with_reducible refine CondX.dec (fun c => ?_) (fun c => ?_)) <;> try (exfalso; omega)
          | (with_reducible refine CondX.beq (fun c => ?_) (fun c => ?_)) <;> try (exfalso; omega)
          | (with_reducible refine CondX.bne (fun c => ?_) (fun c => ?_)) <;> try (exfalso; omega)
          | (with_reducible refine CondX.bool (fun c => ?_) (fun c => ?_)) <;> try (exfalso; omega)
          | simp only [go_sem, I_eq, I_cells, T10, fr2.at, fr1.at, p2, p3, p4, p5, p6, p8, k2, k3, k4, k5, k6, k8, Nat.reduceAdd, Nat.reduceBEq, Nat.reduceEqDiff, Nat.reduceLeDiff, Nat.reduceLT, Nat.reduceSub]
          | simp (disch := omega) only [wrap_in, toNat_succ, toNat_pred, Int.toNat_natCast]
          | with_reducible refine And.intro (by omega) ?_
          | with_reducible refine exI (by omega) ?_
          | fail
        rw [if_pos h0] at hd
        exact ⟨v, out, rfl, ga1, gv, gk, hd, hl⟩
      | own L2 _ hc2 hn2 =>
        subst hxs
        repeat' first
          | (with_reducible refine CondX.dec (fun c => ?_) (fun c => ?_)) <;> try (exfalso; omega)
          | (with_reducible refine CondX.beq (fun c => ?_) (fun c => ?_)) <;> try (exfalso; omega)
          | (with_reducible refine CondX.bne (fun c => ?_) (fun c => ?_)) <;> try (exfalso; omega)
          | (with_reducible refine CondX.bool (fun c => ?_) (fun c => ?_)) <;> try (exfalso; omega)
          | simp only [go_sem, I_eq, I_cells, T10, fr2.at, fr1.at, p2, p3, p4, p5, p6, p8, k2, k3, k4, k5, k6, k8, hc2, List.length_map, Nat.reduceAdd, Nat.reduceBEq, Nat.reduceEqDiff, Nat.reduceLeDiff, Nat.reduceLT, Nat.reduceSub]
          | simp (disch := omega) only [wrap_in, toNat_succ, toNat_pred, Int.toNat_natCast]
          | with_reducible refine And.intro (by omega) ?_
          | with_reducible refine exI (by omega) ?_
          | fail
        · have h0 : ws = [] := List.eq_nil_of_length_eq_zero (by omega)
          rw [if_pos h0] at hd
          exact ⟨v, out, rfl, ga1, gv, gk, hd, hl⟩
        · have hpos : 0 < ws.length := by omega
          have h0 : ws ≠ [] := fun e => by rw [e] at hpos; simp at hpos
          rw [if_neg h0] at hd
          refine CallX.of (CallK.lendL [L2] (line_spec ws false hpos (by omega) hwp) (lend1 hc2) (by simp [AV.sn, AV.sns, encP, stpC]) ?_)
          have hlen : ∀ c K, lenK (g.alloc 10 10 c) v K = K (.int .i64 out.length) := fun c K => by rw [(ga1.alloc _ _ _).lenE, List.length_map]
          cases hlr : lineR ws with
          | none =>
            rw [hlr] at hd
            simp only at hd
            repeat' first
              | (with_reducible refine CondX.dec (fun c => ?_) (fun c => ?_)) <;> try (exfalso; omega)
              | (with_reducible refine CondX.beq (fun c => ?_) (fun c => ?_)) <;> try (exfalso; omega)
              | (with_reducible refine CondX.bne (fun c => ?_) (fun c => ?_)) <;> try (exfalso; omega)
              | (with_reducible refine CondX.bool (fun c => ?_) (fun c => ?_)) <;> try (exfalso; omega)
              | simp only [go_sem, I_eq, I_cells, T10, Option.getD_none, Option.isSome_none, fr2.at, fr1.at, p2, p3, p4, p5, p6, p8, k2, k3, k4, k5, k6, encP_cells, encP_eq, stpC_len, stpC_all, stpC_zover, stpC_take, Nat.reduceAdd, Nat.reduceBEq, Nat.reduceEqDiff, Nat.reduceLeDiff, Nat.reduceLT, Nat.reduceSub]
              | simp (disch := omega) only [wrap_in, toNat_succ, toNat_pred, Int.toNat_natCast]
              | with_reducible refine And.intro (by omega) ?_
              | with_reducible refine exI (by omega) ?_
              | fail
            refine ⟨by decide, (((gf1.alloc _ _ _).set (by simp) _).set (by simp) _).set (by simp) _, by rw [← hd], by rw [← hd], by rw [← hd], ((((gk.alloc _ _ _).set (h.ok _ (by simp)) _).set (h.ok _ (by simp)) _).set (h.ok _ (by simp)) _)⟩
          | some sp =>
            rw [hlr] at hd
            simp only at hd
            repeat' first
              | (with_reducible refine CondX.dec (fun c => ?_) (fun c => ?_)) <;> try (exfalso; omega)
              | (with_reducible refine CondX.beq (fun c => ?_) (fun c => ?_)) <;> try (exfalso; omega)
              | (with_reducible refine CondX.bne (fun c => ?_) (fun c => ?_)) <;> try (exfalso; omega)
              | (with_reducible refine CondX.bool (fun c => ?_) (fun c => ?_)) <;> try (exfalso; omega)
              | simp only [go_sem, I_eq, I_cells, T10, Option.getD_some, Option.isSome_some, fr2.at, fr1.at, p2, p3, p4, p5, p6, p8, k2, k3, k4, k5, k6, hlen, encP_cells, encP_eq, stpC_len, stpC_all, stpC_zover, stpC_take, Nat.reduceAdd, Nat.reduceBEq, Nat.reduceEqDiff, Nat.reduceLeDiff, Nat.reduceLT, Nat.reduceSub]
              | simp (disch := omega) only [wrap_in, toNat_succ, toNat_pred, Int.toNat_natCast]
              | with_reducible refine And.intro (by omega) ?_
              | with_reducible refine exI (by omega) ?_
              | fail
            · rw [if_pos (by omega)] at hd
              refine ⟨by decide, (((gf1.alloc _ _ _).set (by simp) _).set (by simp) _).set (by simp) _, by rw [← hd], by rw [← hd], by rw [← hd], ((((gk.alloc _ _ _).set (h.ok _ (by simp)) _).set (h.ok _ (by simp)) _).set (h.ok _ (by simp)) _)⟩
            · rw [if_neg (by omega)] at hd
              refine (ga1.alloc _ _ _).app (gk.alloc _ _ _) (by simp only [List.length_map, List.length_cons, List.length_nil]; omega) (by simp only [List.length_map, List.length_cons, List.length_nil]; omega) (by decide) fun H' v' a' kp' f1 f2 ev => ?_
              subst ev
              obtain ⟨g1, hg1⟩ : ∃ g1, g.alloc 10 10 (.blk (stpC sp)) = g1 := ⟨_, rfl⟩
              have d2 : H'.con ⟨10, 2, h.cnt 10 2⟩ = .blk [.l true 0 []] := f2 _ _ (by simp only [go_sem, I_eq, I_cells, k2, Nat.reduceAdd, Nat.reduceBEq, Nat.reduceEqDiff, Nat.reduceLeDiff, Nat.reduceLT, Nat.reduceSub])
              have d3 : H'.con ⟨10, 3, h.cnt 10 3⟩ = .blk [.int .i64 0] := f2 _ _ (by simp only [go_sem, I_eq, I_cells, k3, Nat.reduceAdd, Nat.reduceBEq, Nat.reduceEqDiff, Nat.reduceLeDiff, Nat.reduceLT, Nat.reduceSub])
              have d4 : H'.con ⟨10, 4, h.cnt 10 4⟩ = .blk [.int .i64 0] := f2 _ _ (by simp only [go_sem, I_eq, I_cells, k4, Nat.reduceAdd, Nat.reduceBEq, Nat.reduceEqDiff, Nat.reduceLeDiff, Nat.reduceLT, Nat.reduceSub])
              have d5 : H'.con ⟨10, 5, h.cnt 10 5⟩ = .blk [v] := f2 _ _ (by simp only [go_sem, I_eq, I_cells, k5, Nat.reduceAdd, Nat.reduceBEq, Nat.reduceEqDiff, Nat.reduceLeDiff, Nat.reduceLT, Nat.reduceSub])
              have d6 : H'.con ⟨10, 6, h.cnt 10 6⟩ = .blk [.int .i64 ((j + 1 : Nat) : Int)] := f2 _ _ (by simp only [go_sem, I_eq, I_cells, k6, Nat.reduceAdd, Nat.reduceBEq, Nat.reduceEqDiff, Nat.reduceLeDiff, Nat.reduceLT, Nat.reduceSub])
              have kfa : KeepsF [28] s1.hp H' := KeepsF.app (gf1.alloc _ _ _) f1 (fun L hL => by rw [(gv L hL).1]; simp)
              rw [hg1] at a' ⊢
              repeat' first
                | (with_reducible refine CondX.dec (fun c => ?_) (fun c => ?_)) <;> try (exfalso; omega)
                | (with_reducible refine CondX.beq (fun c => ?_) (fun c => ?_)) <;> try (exfalso; omega)
                | (with_reducible refine CondX.bne (fun c => ?_) (fun c => ?_)) <;> try (exfalso; omega)
                | (with_reducible refine CondX.bool (fun c => ?_) (fun c => ?_)) <;> try (exfalso; omega)
                | simp only [go_sem, I_eq, I_cells, d2, d3, d4, d5, d6, Nat.reduceAdd, Nat.reduceBEq, Nat.reduceEqDiff, Nat.reduceLeDiff, Nat.reduceLT, Nat.reduceSub]
                | simp (disch := omega) only [wrap_in, toNat_succ, toNat_pred, Int.toNat_natCast]
                | with_reducible refine And.intro (by omega) ?_
                | with_reducible refine exI (by omega) ?_
                | fail
              refine ⟨kfa.set (by simp) _, _, out ++ [sp], rfl, ?_, (fun L hL => by injection hL with hL; subst hL; exact ⟨rfl, rfl⟩), kp'.set (h.ok _ (by simp)) _, hd, by rw [List.length_append, List.length_singleton]; omega⟩
              rw [List.map_append]
              refine Acc.mono a' fun L hL => ?_
              injection hL with hL
              subst hL
              simp [Hp.set]
  · rintro q ⟨v, out, k2, k3, k4, k5, k6, ga', gv, gk, hd, hl⟩
    rw [List.length_map, List.drop_length] at hd
    have hr : R = (out, 0, 0) := by rw [← hd]; rfl
    have gcs := ga'.cells
    have gce := ga'.cell
    repeat' first
      | (with_reducible refine CondX.dec (fun c => ?_) (fun c => ?_)) <;> try (exfalso; omega)
      | (with_reducible refine CondX.beq (fun c => ?_) (fun c => ?_)) <;> try (exfalso; omega)
      | (with_reducible refine CondX.bne (fun c => ?_) (fun c => ?_)) <;> try (exfalso; omega)
      | (with_reducible refine CondX.bool (fun c => ?_) (fun c => ?_)) <;> try (exfalso; omega)
      | simp only [go_sem, I_eq, I_cells, T10, p2, p3, p4, p5, p6, k2, k3, k4, k5, k6, gcs, gce, Nat.reduceAdd, Nat.reduceBEq, Nat.reduceEqDiff, Nat.reduceLeDiff, Nat.reduceLT, Nat.reduceSub]
      | simp (disch := omega) only [wrap_in, toNat_succ, toNat_pred, Int.toNat_natCast]
      | with_reducible refine And.intro (by omega) ?_
      | with_reducible refine exI (by omega) ?_
      | fail
    rw [hr]
    refine ⟨v, rfl, ga'.mono fun L hL => ?_, ((gk.set (h.ok _ (by simp)) _).set (h.ok _ (by simp)) _).set (h.ok _ (by simp)) _⟩
    obtain ⟨h1, h2⟩ := gv L hL
    have e : ∀ n, n < 49 → L ≠ ⟨10, n, h.cnt 10 n⟩ := fun n hn e => by rw [e] at h2; simp only at h2; omega
    simp [Hp.set, e]
  · rintro x q hx hD
    cases x with
    | ret =>
      obtain ⟨k2, k3, k4, hr, gk⟩ := hD
      repeat' first
        | (with_reducible refine CondX.dec (fun c => ?_) (fun c => ?_)) <;> try (exfalso; omega)
        | (with_reducible refine CondX.beq (fun c => ?_) (fun c => ?_)) <;> try (exfalso; omega)
        | (with_reducible refine CondX.bne (fun c => ?_) (fun c => ?_)) <;> try (exfalso; omega)
        | (with_reducible refine CondX.bool (fun c => ?_) (fun c => ?_)) <;> try (exfalso; omega)
        | simp only [go_sem, I_eq, I_cells, T10, p2, p3, p4, p5, p6, k2, k3, k4, Nat.reduceAdd, Nat.reduceBEq, Nat.reduceEqDiff, Nat.reduceLeDiff, Nat.reduceLT, Nat.reduceSub]
        | simp (disch := omega) only [wrap_in, toNat_succ, toNat_pred, Int.toNat_natCast]
        | with_reducible refine And.intro (by omega) ?_
        | with_reducible refine exI (by omega) ?_
        | fail
      exact ⟨_, rfl, by rw [hr]; exact .nil, gk⟩
    | normal => exact hD.elim
    | exit id => exact hD.elim
end Go.Proofs.YtocfaflghcgniaaDoor
/- The document's Line. -/
namespace Go.Sc
def zeroS : Stp := ⟨0, 0, 0, 0, 0⟩
def lineF (ws : List Bs) : Stp := if ws = [] then zeroS else match nums ws.tail with
  | none => zeroS
  | some xs => if kindOf (ws.getD 0 []) = 0 then zeroS else madeV (kindOf (ws.getD 0 [])) xs
def lineOk (ws : List Bs) : Bool := ws.isEmpty || (lineR ws).isSome
theorem names_at {m : Nat} (h1 : 1 ≤ m) (h : m ≤ 11) : names[m - 1]? = some (nameOf m) := by
  unfold names
  rw [List.getElem?_map, List.getElem?_range (by omega)]
  simp; congr 1; omega
theorem kindOf_found {w : Bs} {m : Nat} (h1 : 1 ≤ m) (h : m ≤ 11) (hn : ∀ u, 1 ≤ u → u < m → nameOf u ≠ w) (he : nameOf m = w) : kindOf w = m := by
  have : names.findIdx? (· == w) = some (m - 1) := by
    rw [List.findIdx?_eq_some_iff_getElem]
    have hl : names.length = 11 := rfl
    refine ⟨by omega, ?_, fun j hj => ?_⟩
    · have := names_at h1 h
      rw [List.getElem?_eq_getElem (by omega)] at this
      injection this with this
      rw [this, he]; simp
    · have := names_at (m := j + 1) (by omega) (by omega)
      rw [Nat.add_sub_cancel, List.getElem?_eq_getElem (by omega)] at this
      injection this with this
      rw [this]
      have := hn (j + 1) (by omega) (by omega)
      simpa using this
  unfold kindOf
  rw [this]; simp; omega
theorem kindOf_not {w : Bs} (hn : ∀ u, 1 ≤ u → u < 12 → nameOf u ≠ w) : kindOf w = 0 := by
  have : names.findIdx? (· == w) = none := by
    rw [List.findIdx?_eq_none_iff]
    intro x hx
    obtain ⟨j, hj, rfl⟩ := List.mem_iff_getElem.1 hx
    have hl : names.length = 11 := rfl
    have h1 := names_at (m := j + 1) (by omega) (by omega)
    rw [Nat.add_sub_cancel, List.getElem?_eq_getElem (by omega)] at h1
    injection h1 with h1
    rw [h1]
    have := hn (j + 1) (by omega) (by omega)
    simpa using this
  unfold kindOf
  rw [this]
end Go.Sc
namespace Go.Proofs.YtocfaflghcgniaaDoor
open Go Go.T Go.Proofs Go.Sc Go.RowKit
set_option linter.unusedSimpArgs false
set_option linter.unusedVariables false
set_option maxRecDepth 10000
set_option maxHeartbeats 4000000
def T17 : Nat → List Tg := fun id => if id = 16 then [.plain, .pure] else []
theorem rLine_spec (l : Bs) (hl : l.length ≤ 65536) : PureF Tryd.prog 17 [strV l] (.tup [encP (lineF (words l)), .bool (!(words l).isEmpty), .bool (lineOk (words l))]) := by
  refine PureF.of_awp mixed T17 (fn := Tryd.f17) (by kernel_rfl) rfl (by kernel_rfl) (by show 1 ≤ _; decide) (by simp [AV.lf, AV.lfs, encP_lf]) (fun h => ?_)
  have hrw := rwords_spec l hl
  have hwp : ∀ x ∈ words l, x.length ≤ 65536 := fun x hx => by have := words_piece hx; omega
  have hwl := words_len l
  obtain ⟨ws, hws⟩ : ∃ ws, words l = ws := ⟨_, rfl⟩
  rw [hws] at hrw hwp hwl ⊢
  rw [awp_assoc, awp_assoc]
  refine awp_cut (fun s => 0 < ws.length ∧ s.slots 2 = .pt ⟨17, 2, h.cnt 17 2⟩ 0 0 0 ∧ s.slots 5 = .l false 1 (ws.map strV) ∧ s.hp.con ⟨17, 2, h.cnt 17 2⟩ = .blk (stpC zeroP) ∧ Keeps h s.hp) ?_ ?_
  · repeat' first
      | (with_reducible refine CondX.dec (fun c => ?_) (fun c => ?_)) <;> try (exfalso; omega)
      | (with_reducible refine CondX.beq (fun c => ?_) (fun c => ?_)) <;> try (exfalso; omega)
      | (with_reducible refine CondX.bne (fun c => ?_) (fun c => ?_)) <;> try (exfalso; omega)
      | (with_reducible refine CondX.bool (fun c => ?_) (fun c => ?_)) <;> try (exfalso; omega)
      | ((with_reducible refine CallX.id ?_); first | refine CallX.pure (hrw) ?_)
      | simp only [go_sem, I_eq, I_cells, T17, Nat.reduceAdd, Nat.reduceBEq, Nat.reduceEqDiff, Nat.reduceLeDiff, Nat.reduceLT, Nat.reduceSub]
      | simp (disch := omega) only [wrap_in, toNat_succ, toNat_pred, Int.toNat_natCast]
      | with_reducible refine And.intro (by omega) ?_
      | with_reducible refine exI (by omega) ?_
      | fail
    · have h0 : ws = [] := List.eq_nil_of_length_eq_zero (by omega)
      rw [h0]
      exact ⟨rfl, by ((repeat first | with_reducible apply Keeps.alloc | (with_reducible refine Keeps.set ?_ ?hL _; case hL => first | assumption | exact Hp.ok _ _ (by simp) | exact Keeps.new (by assumption) _ _)); first | assumption | exact Keeps.refl _)⟩
    · exact ⟨rfl, by ((repeat first | with_reducible apply Keeps.alloc | (with_reducible refine Keeps.set ?_ ?hL _; case hL => first | assumption | exact Hp.ok _ _ (by simp) | exact Keeps.new (by assumption) _ _)); first | assumption | exact Keeps.refl _)⟩
  rintro s ⟨hpos, p2, p5, k2, gK⟩
  have hsh : ∀ x ∈ ws.tail, x.length ≤ 65536 := fun x hx => hwp x (List.mem_of_mem_tail hx)
  obtain ⟨ts, hts⟩ : ∃ ts, ws.tail = ts := ⟨_, rfl⟩
  have htl : ts.length = ws.length - 1 := by rw [← hts, List.length_tail]
  have htd : (ws.map strV).drop 1 = ts.map strV := by rw [← hts, List.drop_one, ← List.map_tail]
  rw [hts] at hsh
  have hE : ws.isEmpty = false := by rw [List.isEmpty_eq_false_iff]; intro e; rw [e] at hpos; simp at hpos
  have ht1 : Int.toNat 1 = 1 := rfl
  have hF : lineF ws = match nums ts with | none => zeroS | some xs => if kindOf ws[0] = 0 then zeroS else madeV (kindOf ws[0]) xs := by
    unfold lineF
    have : ws ≠ [] := fun e => by rw [e] at hpos; simp at hpos
    rw [if_neg this, hts]
    simp [hpos]
  have hO : lineOk ws = (lineR ws).isSome := by
    unfold lineOk
    rw [hE]; rfl
  have hlr := lineR_eq hpos
  rw [hts] at hlr
  rw [hO, hE]
  rw [awp_mid]
  refine awp_cutF [(6, 6), (20, 23)] (by kernel_rfl) (fun t => t.hp = s.hp ∧ t.slots 6 = .l true 0 [] ∧ t.slots 21 = .l false 1 (ts.map strV) ∧ t.slots 22 = .int .i64 (ts.length : Nat) ∧ t.slots 23 = .int .i64 0) ?_ ?_
  · repeat' first
      | (with_reducible refine CondX.dec (fun c => ?_) (fun c => ?_)) <;> try (exfalso; omega)
      | (with_reducible refine CondX.beq (fun c => ?_) (fun c => ?_)) <;> try (exfalso; omega)
      | (with_reducible refine CondX.bne (fun c => ?_) (fun c => ?_)) <;> try (exfalso; omega)
      | (with_reducible refine CondX.bool (fun c => ?_) (fun c => ?_)) <;> try (exfalso; omega)
      | simp only [go_sem, I_eq, I_cells, T17, p5, ht1, htd, List.length_map, Nat.reduceAdd, Nat.reduceBEq, Nat.reduceEqDiff, Nat.reduceLeDiff, Nat.reduceLT, Nat.reduceSub]
      | simp (disch := omega) only [wrap_in, toNat_succ, toNat_pred, Int.toNat_natCast]
      | with_reducible refine And.intro (by omega) ?_
      | with_reducible refine exI (by omega) ?_
      | fail
    omega
  rintro s1 fr1 ⟨hH, p6, p21, p22, p23⟩
  refine awp_cutF [(3, 4), (6, 6), (8, 10), (23, 39)] (by kernel_rfl) (fun t => ∃ v xs, nums ts = some xs ∧ t.slots 6 = v ∧ Acc h t.hp 1 v (xs.map I) ∧ Keeps h t.hp ∧ t.hp.con ⟨17, 2, h.cnt 17 2⟩ = .blk (stpC zeroP)) ?_ ?_
  · rw [awp_block]
    refine awp_countF [(3, 4), (6, 6), (8, 10), (23, 39)] (by kernel_rfl) 23 22 (by kernel_rfl) ts.length (by omega) (fun i t => ∃ v xs, nums (ts.take i) = some xs ∧ t.slots 6 = v ∧ Acc h t.hp 1 v (xs.map I) ∧ Keeps h t.hp ∧ t.hp.con ⟨17, 2, h.cnt 17 2⟩ = .blk (stpC zeroP)) ?_ ?_ ?_ ?_ ?_
    · exact p23
    · exact p22
    · exact ⟨_, [], by simp [nums], p6, .nil, by rw [hH]; exact gK, by rw [hH]; exact k2⟩
    · rintro i t hlt d2 hw fr g23 g22 ⟨v, xs, hx, q6, ga, gk, q2⟩
      have hnx := nums_next hlt hx
      have hxl := nums_len _ _ hx
      rw [List.length_take] at hxl
      have hstop : num ts[i] = none → nums ts = none := fun e => nums_stop hlt e
      repeat' first
        | (with_reducible refine CondX.dec (fun c => ?_) (fun c => ?_)) <;> try (exfalso; omega)
        | (with_reducible refine CondX.beq (fun c => ?_) (fun c => ?_)) <;> try (exfalso; omega)
        | (with_reducible refine CondX.bne (fun c => ?_) (fun c => ?_)) <;> try (exfalso; omega)
        | (with_reducible refine CondX.bool (fun c => ?_) (fun c => ?_)) <;> try (exfalso; omega)
        | ((with_reducible refine CallX.id ?_); first | refine CallX.pure (rnumber_spec _ (hsh _ (List.getElem_mem hlt))) ?_)
        | simp only [go_sem, I_eq, I_cells, T17, fr.at, fr1.at, p2, p5, p21, p22, g23, g22, d2, hw, q6, q2, List.getElem_map, cells_strV, stpC_len, Nat.reduceAdd, Nat.reduceBEq, Nat.reduceEqDiff, Nat.reduceLeDiff, Nat.reduceLT, Nat.reduceSub]
        | simp (disch := omega) only [wrap_in, toNat_succ, toNat_pred, Int.toNat_natCast]
        | with_reducible refine And.intro (by omega) ?_
        | with_reducible refine exI (by omega) ?_
        | fail
      · obtain ⟨x, hx1⟩ := Option.isSome_iff_exists.1 c
        rw [hx1] at hnx ⊢
        refine ga.app gk (by simp only [List.length_map, List.length_cons, List.length_nil]; omega) (by simp only [List.length_map, List.length_cons, List.length_nil]; omega) (by decide) fun H' v' a' kp' f1 f2 ev => ?_
        exact ⟨v', xs ++ [x], by rw [hnx]; rfl, rfl, by rw [List.map_append]; exact a', kp', f2 _ _ q2⟩
      · have hn : nums ts = none := hstop (by simpa using c)
        have h1 : lineR ws = none := by
          rw [hlr, hn]
          simp only [Option.map_none]
          split
          · rfl
          · split <;> rfl
        rw [hF, hn, h1]
        simp only [stpC_z5, stpC_take, stpC_len]
        exact ⟨⟨by omega, rfl⟩, gk.set (h.ok _ (by simp)) _⟩
    · rintro t d2 fr g23 g22 ⟨v, xs, hx, q6, ga, gk, q2⟩
      rw [List.take_length] at hx
      repeat' first
        | (with_reducible refine CondX.dec (fun c => ?_) (fun c => ?_)) <;> try (exfalso; omega)
        | (with_reducible refine CondX.beq (fun c => ?_) (fun c => ?_)) <;> try (exfalso; omega)
        | (with_reducible refine CondX.bne (fun c => ?_) (fun c => ?_)) <;> try (exfalso; omega)
        | (with_reducible refine CondX.bool (fun c => ?_) (fun c => ?_)) <;> try (exfalso; omega)
        | simp only [go_sem, I_eq, I_cells, T17, fr.at, fr1.at, p2, p5, p21, p22, g23, g22, d2, q6, Nat.reduceAdd, Nat.reduceBEq, Nat.reduceEqDiff, Nat.reduceLeDiff, Nat.reduceLT, Nat.reduceSub]
        | simp (disch := omega) only [wrap_in, toNat_succ, toNat_pred, Int.toNat_natCast]
        | with_reducible refine And.intro (by omega) ?_
        | with_reducible refine exI (by omega) ?_
        | fail
      exact ⟨v, xs, hx, rfl, ga, gk, q2⟩
  rintro s2 fr2 ⟨v, xs, hx, p6', ga, gk, q2⟩
  have hxl := nums_len _ _ hx
  rw [hx] at hF hlr
  simp only [Option.map_some] at hF hlr
  repeat' first
    | (with_reducible refine CondX.dec (fun c => ?_) (fun c => ?_)) <;> try (exfalso; omega)
    | (with_reducible refine CondX.beq (fun c => ?_) (fun c => ?_)) <;> try (exfalso; omega)
    | (with_reducible refine CondX.bne (fun c => ?_) (fun c => ?_)) <;> try (exfalso; omega)
    | (with_reducible refine CondX.bool (fun c => ?_) (fun c => ?_)) <;> try (exfalso; omega)
    | simp only [go_sem, I_eq, I_cells, T17, Nat.reduceAdd, Nat.reduceBEq, Nat.reduceEqDiff, Nat.reduceLeDiff, Nat.reduceLT, Nat.reduceSub]
    | simp (disch := omega) only [wrap_in, toNat_succ, toNat_pred, Int.toNat_natCast]
    | with_reducible refine And.intro (by omega) ?_
    | with_reducible refine exI (by omega) ?_
    | fail
  refine awp_fuelF [(3, 4), (11, 13), (40, 57)] (by kernel_rfl) (fun k t => ∃ m, m + k = 12 ∧ 1 ≤ m ∧ t.slots 11 = .int .i64 (m : Nat) ∧ t.hp = s2.hp ∧ ∀ u, 1 ≤ u → u < m → nameOf u ≠ ws[0]) 11 ?_ ?_
  · simp only [go_sem, I_eq, I_cells, Nat.reduceAdd, Nat.reduceBEq, Nat.reduceEqDiff, Nat.reduceLeDiff, Nat.reduceLT, Nat.reduceSub]
    exact ⟨1, by omega, by omega, rfl, by omega⟩
  rintro k t fr ⟨m, hm, h1m, q11, hH2, hn⟩
  have w1 : IntKind.i64.wrap ((m : Int) + 1) = ((m + 1 : Nat) : Int) := by rw [IntWalk.i64_in _ (by omega)]; simp
  have hnm : nameI (m : Int) = nameOf m := by unfold nameI; rw [Int.toNat_natCast]
  have hrn := rname_spec (m : Int)
  rw [hnm] at hrn
  by_cases hm12 : m ≤ 11
  · have hdec : decide ((m : Int) ≤ 11) = true := decide_eq_true (by omega)
    repeat' first
      | (with_reducible refine CondX.dec (fun c => ?_) (fun c => ?_)) <;> try (exfalso; omega)
      | (with_reducible refine CondX.beq (fun c => ?_) (fun c => ?_)) <;> try (exfalso; omega)
      | (with_reducible refine CondX.bne (fun c => ?_) (fun c => ?_)) <;> try (exfalso; omega)
      | (with_reducible refine CondX.bool (fun c => ?_) (fun c => ?_)) <;> try (exfalso; omega)
      | ((with_reducible refine CallX.id ?_); first | refine CallX.pure (hrn) ?_)
      | ((with_reducible refine PureX.id ?_); first | refine PureX.of (hrn) ?_)
      | simp only [go_sem, I_eq, I_cells, T17, fr.at, fr2.at, fr1.at, p2, p5, p6', q11, hdec, w1, hH2, q2, List.getElem_map, cells_strV, Nat.reduceAdd, Nat.reduceBEq, Nat.reduceEqDiff, Nat.reduceLeDiff, Nat.reduceLT, Nat.reduceSub]
      | simp (disch := omega) only [wrap_in, toNat_succ, toNat_pred, Int.toNat_natCast]
      | with_reducible refine And.intro (by omega) ?_
      | with_reducible refine exI (by omega) ?_
      | fail
    · have hk : kindOf ws[0] = m := kindOf_found h1m hm12 hn c
      rw [hk, if_neg (by omega)] at hF hlr
      obtain ⟨Ls, hLs⟩ := ga.lend
      have hle := hLs [.int .i64 (m : Nat)] [] (by simp [AV.lfs, AV.lf]) (by simp [AV.lfs])
      simp only [List.cons_append, List.nil_append] at hle
      refine CallX.of (CallK.lendL Ls (made_spec m xs false (by omega) hm12 (by omega)) hle (by simp [AV.sn, AV.sns, encP, stpC]) ?_)
      rw [hF, hlr]
      have hiff : (if ws.length ≠ 1 + arity m then none else some (made m xs)).isSome = decide (xs.length = arity m) := by
        by_cases h1 : ws.length = 1 + arity m
        · rw [if_neg (by omega)]; simp; omega
        · rw [if_pos h1]; simp; omega
      rw [hiff]
      repeat' first
        | (with_reducible refine CondX.dec (fun c => ?_) (fun c => ?_)) <;> try (exfalso; omega)
        | (with_reducible refine CondX.beq (fun c => ?_) (fun c => ?_)) <;> try (exfalso; omega)
        | (with_reducible refine CondX.bne (fun c => ?_) (fun c => ?_)) <;> try (exfalso; omega)
        | (with_reducible refine CondX.bool (fun c => ?_) (fun c => ?_)) <;> try (exfalso; omega)
        | simp only [go_sem, I_eq, I_cells, T17, fr.at, fr2.at, fr1.at, p2, hH2, q2, encP_cells, encP_eq, stpC_len, stpC_all, stpC_zover, stpC_take, stpC_over, Nat.reduceAdd, Nat.reduceBEq, Nat.reduceEqDiff, Nat.reduceLeDiff, Nat.reduceLT, Nat.reduceSub]
        | simp (disch := omega) only [wrap_in, toNat_succ, toNat_pred, Int.toNat_natCast]
        | with_reducible refine And.intro (by omega) ?_
        | with_reducible refine exI (by omega) ?_
        | fail
      exact ⟨rfl, (gk.alloc _ _ _).set (h.ok _ (by simp)) _⟩
    · exact ⟨k - 1, by omega, m + 1, by omega, by omega, rfl, fun u h1 h2 => by
        rcases Nat.lt_succ_iff_lt_or_eq.1 h2 with h3 | h3
        · exact hn u h1 h3
        · rw [h3]; exact c⟩
  · have hk : kindOf ws[0] = 0 := kindOf_not (fun u h1 h2 => hn u h1 (by omega))
    have hdec : decide ((m : Int) ≤ 11) = false := decide_eq_false (by omega)
    rw [hF, hlr, if_pos hk, if_pos hk]
    repeat' first
      | (with_reducible refine CondX.dec (fun c => ?_) (fun c => ?_)) <;> try (exfalso; omega)
      | (with_reducible refine CondX.beq (fun c => ?_) (fun c => ?_)) <;> try (exfalso; omega)
      | (with_reducible refine CondX.bne (fun c => ?_) (fun c => ?_)) <;> try (exfalso; omega)
      | (with_reducible refine CondX.bool (fun c => ?_) (fun c => ?_)) <;> try (exfalso; omega)
      | simp only [go_sem, I_eq, I_cells, T17, fr.at, fr2.at, fr1.at, p2, p5, q11, hdec, hH2, q2, Nat.reduceAdd, Nat.reduceBEq, Nat.reduceEqDiff, Nat.reduceLeDiff, Nat.reduceLT, Nat.reduceSub]
      | simp (disch := omega) only [wrap_in, toNat_succ, toNat_pred, Int.toNat_natCast]
      | with_reducible refine And.intro (by omega) ?_
      | with_reducible refine exI (by omega) ?_
      | fail
    simp only [stpC_z5, stpC_take, stpC_len]
    exact ⟨by omega, ⟨by omega, rfl⟩, gk.set (h.ok _ (by simp)) _⟩
end Go.Proofs.YtocfaflghcgniaaDoor
/- The document's Parse. -/
namespace Go.Sc
theorem lineF_some {ws : List Bs} {s : Stp} (h : lineR ws = some s) : lineF ws = s := by
  cases ws with
  | nil => simp [lineR] at h
  | cons w r =>
    unfold lineF
    rw [if_neg (by simp)]
    simp only [lineR] at h
    simp only [List.tail_cons, List.getD_cons_zero]
    by_cases hk : kindOf w = 0
    · rw [if_pos hk] at h; cases h
    · rw [if_neg hk] at h
      by_cases hl : r.length = arity (kindOf w)
      · rw [if_neg (by omega)] at h
        cases hn : nums r with
        | none => rw [hn] at h; cases h
        | some xs =>
          rw [hn] at h
          simp only [Option.map_some, Option.some.injEq] at h
          simp only [if_neg hk]
          rw [madeV_eq (by rw [nums_len _ _ hn, hl])]
          exact h
      · rw [if_pos hl] at h; cases h
/-- A piece, as far as it has been seen. -/
theorem cut_drop_end {c : UInt8} {l : Bs} {a i : Nat} (hai : a ≤ i) (hi : i = l.length) (hn : ∀ k, a ≤ k → k < i → l.getD k 0 ≠ c) : cut c (l.drop a) = [(l.drop a).take (i - a)] := by
  have ht : (l.drop a).take (i - a) = l.drop a := List.take_of_length_le (by simp; omega)
  rw [ht]
  refine cut_one c _ fun hm => ?_
  obtain ⟨k, hk, e⟩ := List.mem_iff_getElem.1 hm
  simp at hk
  refine hn (a + k) (by omega) (by omega) ?_
  rw [List.getElem_drop] at e
  rw [← e]; simp [show a + k < l.length by omega]
theorem cut_drop_at {c : UInt8} {l : Bs} {a i : Nat} (hai : a ≤ i) (hi : i < l.length) (hn : ∀ k, a ≤ k → k < i → l.getD k 0 ≠ c) (he : l.getD i 0 = c) : cut c (l.drop a) = (l.drop a).take (i - a) :: cut c (l.drop (i + 1)) := by
  have e : l.drop a = (l.drop a).take (i - a) ++ c :: l.drop (i + 1) := by
    rw [← he, ← drop_getD hi]
    have : l.drop i = (l.drop a).drop (i - a) := by rw [List.drop_drop]; congr 1; omega
    rw [this, List.take_append_drop]
  conv => lhs; rw [e]
  refine cut_app c _ _ fun hm => ?_
  obtain ⟨k, hk, e2⟩ := List.mem_iff_getElem.1 hm
  simp at hk
  refine hn (a + k) (by omega) (by omega) ?_
  rw [List.getElem_take, List.getElem_drop] at e2
  rw [← e2]; simp [show a + k < l.length by omega]
end Go.Sc
namespace Go.Proofs.YtocfaflghcgniaaDoor
open Go Go.T Go.Proofs Go.Sc Go.RowKit
set_option linter.unusedSimpArgs false
set_option linter.unusedVariables false
set_option maxRecDepth 10000
set_option maxHeartbeats 4000000
theorem rParse_spec (t : Bs) (h : Hp) : CallK Tryd.prog 11 [strV t] h (ParseR h (parse 65536 4096 t)) := by
  refine CallK.of_awpH mixed (fun _ => []) (fn := Tryd.f11) (by kernel_rfl) rfl (by kernel_rfl) (by show 1 ≤ _; decide) ?_
  repeat' first
    | (with_reducible refine CondX.dec (fun c => ?_) (fun c => ?_)) <;> try (exfalso; omega)
    | (with_reducible refine CondX.beq (fun c => ?_) (fun c => ?_)) <;> try (exfalso; omega)
    | (with_reducible refine CondX.bne (fun c => ?_) (fun c => ?_)) <;> try (exfalso; omega)
    | (with_reducible refine CondX.bool (fun c => ?_) (fun c => ?_)) <;> try (exfalso; omega)
    | simp only [go_sem, I_eq, I_cells, Nat.reduceAdd, Nat.reduceBEq, Nat.reduceEqDiff, Nat.reduceLeDiff, Nat.reduceLT, Nat.reduceSub]
    | simp (disch := omega) only [wrap_in, toNat_succ, toNat_pred, Int.toNat_natCast]
    | with_reducible refine And.intro (by omega) ?_
    | with_reducible refine exI (by omega) ?_
    | fail
  · have hp : parse 65536 4096 t = ([], 0, 3) := by unfold parse; rw [if_pos (by omega)]
    rw [hp]
    exact ⟨_, rfl, .nil, Keeps.refl _⟩
  obtain ⟨R, hR⟩ : ∃ R, parse 65536 4096 t = R := ⟨_, rfl⟩
  rw [hR]
  unfold parse at hR
  rw [if_neg (by omega)] at hR
  refine awp_fuelF [(2, 11), (15, 55)] (by kernel_rfl) (fun k t' => ∃ (i a n : Nat) (v : AV) (out : List Stp), i + k = t.length + 1 ∧ a ≤ i ∧ (t.length < i → t.length < a) ∧ n ≤ i + 1 ∧ t'.slots 8 = .int .i64 (i : Nat) ∧ t'.slots 7 = .int .i64 (a : Nat) ∧ t'.slots 6 = .int .i64 (n : Nat) ∧ t'.slots 5 = v ∧
    Acc h t'.hp 5 v (out.map encP) ∧ Keeps h t'.hp ∧ out.length ≤ 4096 ∧ (∀ u, a ≤ u → u < i → t.getD u 0 ≠ 10) ∧ (if a ≤ t.length then parseL 4096 (cut 10 (t.drop a)) n out = R else R = (out, 0, 0))) (t.length + 1) ?_ ?_
  · simp only [go_sem, I_eq, I_cells, Nat.reduceAdd, Nat.reduceBEq, Nat.reduceEqDiff, Nat.reduceLeDiff, Nat.reduceLT, Nat.reduceSub]
    exact ⟨0, 0, 1, _, [], by omega, by omega, by omega, by omega, rfl, rfl, rfl, rfl, .nil, Keeps.refl _, by simp, (fun u h1 h2 => by omega), by rw [if_pos (by omega), List.drop_zero]; exact hR⟩
  rintro k s fr ⟨i, a, n, v, out, hk, hai, hae, hni, p8, p7, p6, p5, ga, gk, hol, hno, hd⟩
  have w1 : IntKind.i64.wrap ((i : Int) + 1) = ((i + 1 : Nat) : Int) := by rw [IntWalk.i64_in _ (by omega)]; simp
  have w2 : IntKind.i64.wrap ((n : Int) + 1) = ((n + 1 : Nat) : Int) := by rw [IntWalk.i64_in _ (by omega)]; simp
  by_cases hil : i ≤ t.length
  · have hdec : decide ((i : Int) ≤ (t.length : Int)) = true := decide_eq_true (by omega)
    rw [if_pos (by omega)] at hd
    have hpl : ((t.drop a).take (i - a)).length ≤ 65536 := by rw [List.length_take, List.length_drop]; omega
    have hlen : ∀ c K, lenK (s.hp.alloc 11 9 c) v K = K (.int .i64 out.length) := fun c K => by rw [(ga.alloc _ _ _).lenE, List.length_map]
    obtain ⟨pc, hpc⟩ : ∃ pc, (t.drop a).take (i - a) = pc := ⟨_, rfl⟩
    have key : (i = t.length ∨ (i < t.length ∧ t.getD i 0 = 10)) → ∃ rest, parseL 4096 (pc :: rest) n out = R ∧ ∀ out', parseL 4096 rest (n + 1) out' = R → (if i + 1 ≤ t.length then parseL 4096 (cut 10 (t.drop (i + 1))) (n + 1) out' = R else R = (out', 0, 0)) := by
      rintro (he | ⟨hlt, he⟩)
      · rw [cut_drop_end hai he hno, hpc] at hd
        exact ⟨[], hd, fun out' h' => by rw [if_neg (by omega)]; rw [← h']; rfl⟩
      · rw [cut_drop_at hai hlt hno he, hpc] at hd
        exact ⟨_, hd, fun out' h' => by rw [if_pos (by omega)]; exact h'⟩
    rw [hpc] at hpl
    have h10 : (10 : UInt8).toNat = 10 := rfl
    repeat' first
      | (with_reducible refine CondX.dec (fun c => ?_) (fun c => ?_)) <;> try (exfalso; omega)
      | (with_reducible refine CondX.beq (fun c => ?_) (fun c => ?_)) <;> try (exfalso; omega)
      | (with_reducible refine CondX.bne (fun c => ?_) (fun c => ?_)) <;> try (exfalso; omega)
      | (with_reducible refine CondX.bool (fun c => ?_) (fun c => ?_)) <;> try (exfalso; omega)
      | ((with_reducible refine CallX.id ?_); first | refine CallX.pure (rLine_spec _ hpl) ?_)
      | simp only [go_sem, I_eq, I_cells, fr.at, p8, p7, p6, p5, hdec, w1, w2, hlen, hpc, List.length_map, encP_cells, encP_eq, stpC_len, stpC_all, stpC_zover, stpC_take, Nat.reduceAdd, Nat.reduceBEq, Nat.reduceEqDiff, Nat.reduceLeDiff, Nat.reduceLT, Nat.reduceSub]
      | simp (disch := omega) only [wrap_in, toNat_succ, toNat_pred, Int.toNat_natCast]
      | with_reducible refine And.intro (by omega) ?_
      | with_reducible refine exI (by omega) ?_
      | fail
    · have hc : t.getD i 0 ≠ 10 := fun e => c (by rw [e]; rfl)
      exact ⟨k - 1, by omega, i + 1, a, n, v, out, by omega, by omega, by omega, by omega, rfl, rfl, rfl, rfl, ga, gk, hol, (fun u u1 u2 => by
        rcases Nat.lt_succ_iff_lt_or_eq.1 u2 with u3 | u3
        · exact hno u u1 u3
        · rw [u3]; exact hc), by rw [if_pos (by omega)]; exact hd⟩
    · obtain ⟨rest, h1, h2⟩ := key (.inr ⟨by omega, UInt8.toNat_inj.1 (by omega)⟩)
      rw [parseL_cons, if_pos (by simpa using c)] at h1
      exact ⟨k - 1, by omega, i + 1, i + 1, n + 1, v, out, by omega, by omega, by omega, by omega, rfl, rfl, rfl, rfl, ga.alloc _ _ _, gk.alloc _ _ _, hol, (fun u u1 u2 => by omega), h2 _ h1⟩
    · rename_i c0 c1
      obtain ⟨rest, h1, h2⟩ := key (.inr ⟨by omega, UInt8.toNat_inj.1 (by omega)⟩)
      have hne : words pc ≠ [] := fun e => by rw [e] at c1; simp at c1
      obtain ⟨sp, hsp⟩ : ∃ sp, lineR (words pc) = some sp := by
        unfold lineOk at c0
        rw [c1, Bool.false_or] at c0
        exact Option.isSome_iff_exists.1 c0
      rw [parseL_cons, if_neg hne, hsp] at h1
      simp only at h1
      rw [if_pos (by omega)] at h1
      exact ⟨_, by rw [← h1]; rfl, by rw [← h1]; exact .nil, gk.alloc _ _ _⟩
    · rename_i c0 c1
      obtain ⟨rest, h1, h2⟩ := key (.inr ⟨by omega, UInt8.toNat_inj.1 (by omega)⟩)
      have hne : words pc ≠ [] := fun e => by rw [e] at c1; simp at c1
      obtain ⟨sp, hsp⟩ : ∃ sp, lineR (words pc) = some sp := by
        unfold lineOk at c0
        rw [c1, Bool.false_or] at c0
        exact Option.isSome_iff_exists.1 c0
      rw [parseL_cons, if_neg hne, hsp] at h1
      simp only at h1
      rw [if_neg (by omega)] at h1
      rw [lineF_some hsp]
      refine (ga.alloc _ _ _).app (gk.alloc _ _ _) (by simp only [List.length_map, List.length_cons, List.length_nil]; omega) (by simp only [List.length_map, List.length_cons, List.length_nil]; omega) (by decide) fun H' v' a' kp' f1 f2 ev => ?_
      repeat' first
        | (with_reducible refine CondX.dec (fun c => ?_) (fun c => ?_)) <;> try (exfalso; omega)
        | (with_reducible refine CondX.beq (fun c => ?_) (fun c => ?_)) <;> try (exfalso; omega)
        | (with_reducible refine CondX.bne (fun c => ?_) (fun c => ?_)) <;> try (exfalso; omega)
        | (with_reducible refine CondX.bool (fun c => ?_) (fun c => ?_)) <;> try (exfalso; omega)
        | simp only [go_sem, I_eq, I_cells, fr.at, p8, p7, p6, w1, w2, Nat.reduceAdd, Nat.reduceBEq, Nat.reduceEqDiff, Nat.reduceLeDiff, Nat.reduceLT, Nat.reduceSub]
        | simp (disch := omega) only [wrap_in, toNat_succ, toNat_pred, Int.toNat_natCast]
        | with_reducible refine And.intro (by omega) ?_
        | with_reducible refine exI (by omega) ?_
        | fail
      exact ⟨k - 1, by omega, i + 1, i + 1, n + 1, v', out ++ [sp], by omega, by omega, by omega, by omega, rfl, rfl, rfl, rfl, by rw [List.map_append]; exact a', kp', by rw [List.length_append, List.length_singleton]; omega, (fun u u1 u2 => by omega), h2 _ h1⟩
    · obtain ⟨rest, h1, h2⟩ := key (.inr ⟨by omega, UInt8.toNat_inj.1 (by omega)⟩)
      have hne : words pc ≠ [] := fun e => by rw [e] at c; simp [lineOk] at c
      have hln : lineR (words pc) = none := by
        unfold lineOk at c
        rw [Bool.or_eq_false_iff] at c
        simpa using c.2
      rw [parseL_cons, if_neg hne, hln] at h1
      simp only at h1
      exact ⟨_, by rw [← h1]; rfl, by rw [← h1]; exact .nil, gk.alloc _ _ _⟩
    · obtain ⟨rest, h1, h2⟩ := key (.inl (by omega))
      rw [parseL_cons, if_pos (by simpa using c)] at h1
      exact ⟨k - 1, by omega, i + 1, i + 1, n + 1, v, out, by omega, by omega, by omega, by omega, rfl, rfl, rfl, rfl, ga.alloc _ _ _, gk.alloc _ _ _, hol, (fun u u1 u2 => by omega), h2 _ h1⟩
    · rename_i c0 c1
      obtain ⟨rest, h1, h2⟩ := key (.inl (by omega))
      have hne : words pc ≠ [] := fun e => by rw [e] at c1; simp at c1
      obtain ⟨sp, hsp⟩ : ∃ sp, lineR (words pc) = some sp := by
        unfold lineOk at c0
        rw [c1, Bool.false_or] at c0
        exact Option.isSome_iff_exists.1 c0
      rw [parseL_cons, if_neg hne, hsp] at h1
      simp only at h1
      rw [if_pos (by omega)] at h1
      exact ⟨_, by rw [← h1]; rfl, by rw [← h1]; exact .nil, gk.alloc _ _ _⟩
    · rename_i c0 c1
      obtain ⟨rest, h1, h2⟩ := key (.inl (by omega))
      have hne : words pc ≠ [] := fun e => by rw [e] at c1; simp at c1
      obtain ⟨sp, hsp⟩ : ∃ sp, lineR (words pc) = some sp := by
        unfold lineOk at c0
        rw [c1, Bool.false_or] at c0
        exact Option.isSome_iff_exists.1 c0
      rw [parseL_cons, if_neg hne, hsp] at h1
      simp only at h1
      rw [if_neg (by omega)] at h1
      rw [lineF_some hsp]
      refine (ga.alloc _ _ _).app (gk.alloc _ _ _) (by simp only [List.length_map, List.length_cons, List.length_nil]; omega) (by simp only [List.length_map, List.length_cons, List.length_nil]; omega) (by decide) fun H' v' a' kp' f1 f2 ev => ?_
      repeat' first
        | (with_reducible refine CondX.dec (fun c => ?_) (fun c => ?_)) <;> try (exfalso; omega)
        | (with_reducible refine CondX.beq (fun c => ?_) (fun c => ?_)) <;> try (exfalso; omega)
        | (with_reducible refine CondX.bne (fun c => ?_) (fun c => ?_)) <;> try (exfalso; omega)
        | (with_reducible refine CondX.bool (fun c => ?_) (fun c => ?_)) <;> try (exfalso; omega)
        | simp only [go_sem, I_eq, I_cells, fr.at, p8, p7, p6, w1, w2, Nat.reduceAdd, Nat.reduceBEq, Nat.reduceEqDiff, Nat.reduceLeDiff, Nat.reduceLT, Nat.reduceSub]
        | simp (disch := omega) only [wrap_in, toNat_succ, toNat_pred, Int.toNat_natCast]
        | with_reducible refine And.intro (by omega) ?_
        | with_reducible refine exI (by omega) ?_
        | fail
      exact ⟨k - 1, by omega, i + 1, i + 1, n + 1, v', out ++ [sp], by omega, by omega, by omega, by omega, rfl, rfl, rfl, rfl, by rw [List.map_append]; exact a', kp', by rw [List.length_append, List.length_singleton]; omega, (fun u u1 u2 => by omega), h2 _ h1⟩
    · obtain ⟨rest, h1, h2⟩ := key (.inl (by omega))
      have hne : words pc ≠ [] := fun e => by rw [e] at c; simp [lineOk] at c
      have hln : lineR (words pc) = none := by
        unfold lineOk at c
        rw [Bool.or_eq_false_iff] at c
        simpa using c.2
      rw [parseL_cons, if_neg hne, hln] at h1
      simp only at h1
      exact ⟨_, by rw [← h1]; rfl, by rw [← h1]; exact .nil, gk.alloc _ _ _⟩
  · have hdec : decide ((i : Int) ≤ (t.length : Int)) = false := decide_eq_false (by omega)
    repeat' first
      | (with_reducible refine CondX.dec (fun c => ?_) (fun c => ?_)) <;> try (exfalso; omega)
      | (with_reducible refine CondX.beq (fun c => ?_) (fun c => ?_)) <;> try (exfalso; omega)
      | (with_reducible refine CondX.bne (fun c => ?_) (fun c => ?_)) <;> try (exfalso; omega)
      | (with_reducible refine CondX.bool (fun c => ?_) (fun c => ?_)) <;> try (exfalso; omega)
      | simp only [go_sem, I_eq, I_cells, fr.at, p8, p7, p6, p5, hdec, Nat.reduceAdd, Nat.reduceBEq, Nat.reduceEqDiff, Nat.reduceLeDiff, Nat.reduceLT, Nat.reduceSub]
      | simp (disch := omega) only [wrap_in, toNat_succ, toNat_pred, Int.toNat_natCast]
      | with_reducible refine And.intro (by omega) ?_
      | with_reducible refine exI (by omega) ?_
      | fail
    rw [if_neg (by omega)] at hd
    rw [hd]
    exact ⟨v, rfl, ga, gk⟩
end Go.Proofs.YtocfaflghcgniaaDoor
/- The document's Text. -/
namespace Go.Sc
theorem decDigits_len : ∀ (k u : Nat), u < 10 ^ (k + 1) → (Lib.decDigits u).length ≤ k + 1 := by
  intro k
  induction k with
  | zero => intro u h; rw [Lib.decDigits, dif_pos (by omega)]; simp
  | succ k ih =>
    intro u h
    rw [Lib.decDigits]
    by_cases hu : u < 10
    · rw [dif_pos hu]; simp
    · rw [dif_neg hu, List.length_append, List.length_singleton]
      have := ih (u / 10) (by rw [Nat.pow_succ] at h; omega)
      omega
theorem itoa_len {x : Int} (h1 : -1000000000000000000 < x) (h2 : x < 1000000000000000000) : (Lib.itoa x).length ≤ 19 := by
  unfold Lib.itoa
  split
  · have := decDigits_len 17 x.natAbs (by omega)
    simp; omega
  · have := decDigits_len 17 x.toNat (by omega)
    omega
def inR (x : Int) : Bool := decide (-1000000000000000000 < x) && decide (x < 1000000000000000000)
def sayN (xs : List Int) : Bs := xs.flatMap fun x => 32 :: Lib.itoa x
def okS (s : Stp) : Bool := !(nameI s.kind).isEmpty && (toldL s).all inR && decide (made s.kind.toNat (toldL s) = s)
def sayS (s : Stp) : Bs := nameI s.kind ++ sayN (toldL s) ++ [10]
/-- What Text says: none where a step is none. -/
def textR : List Stp → Option Bs
  | [] => some []
  | s :: r => if okS s then (textR r).map (sayS s ++ ·) else none
theorem textR_cons (s : Stp) (r : List Stp) : textR (s :: r) = if okS s then (textR r).map (sayS s ++ ·) else none := by conv => lhs; unfold textR
theorem textR_app : ∀ (a b : List Stp), textR (a ++ b) = (textR a).bind fun x => (textR b).map (x ++ ·) := by
  intro a
  induction a with
  | nil => intro b; simp [textR]
  | cons s r ih =>
    intro b
    rw [List.cons_append, textR_cons, textR_cons, ih]
    by_cases h : okS s = true
    · rw [if_pos h, if_pos h]
      cases textR r with
      | none => rfl
      | some x => cases textR b <;> simp
    · rw [if_neg h, if_neg h]; rfl
theorem textR_next {a : List Stp} {i : Nat} {x : Bs} (hi : i < a.length) (h : textR (a.take i) = some x) : textR (a.take (i + 1)) = if okS a[i] then some (x ++ sayS a[i]) else none := by
  rw [List.take_succ_eq_append_getElem hi, textR_app, h]
  simp only [textR_cons, Option.bind_some]
  split
  · simp [textR]
  · rfl
theorem textR_stop {a : List Stp} {i : Nat} (hi : i < a.length) (h : okS a[i] = false) : textR a = none := by
  have e : a = a.take i ++ (a[i] :: a.drop (i + 1)) := by rw [← List.drop_eq_getElem_cons hi, List.take_append_drop]
  rw [e, textR_app, textR_cons, h]
  cases textR (a.take i) <;> simp
theorem nameI_some {k : Int} (h : nameI k ≠ []) : ∃ n : Nat, k = n ∧ n ≠ 0 ∧ n ≤ 11 := by
  unfold nameI at h
  refine ⟨k.toNat, ?_, ?_, ?_⟩
  · rcases Int.le_total 0 k with h0 | h0
    · omega
    · have : k.toNat = 0 := by omega
      rw [this] at h; exact absurd rfl h
  · intro e; rw [e] at h; exact absurd rfl h
  · apply Nat.le_of_not_lt
    intro hn
    apply h
    generalize k.toNat = n at hn
    unfold nameOf
    split <;> first | omega | rfl
theorem nameOf_le (n : Nat) : (nameOf n).length ≤ 7 := by
  unfold nameOf
  split <;> simp
theorem toldL_len {s : Stp} {n : Nat} (hk : s.kind = n) (h0 : n ≠ 0) (h : n ≤ 11) : (toldL s).length = arity n := by
  unfold toldL
  rw [List.length_map, hk, fieldsL_len h0 h]
theorem toldL_le (s : Stp) : (toldL s).length ≤ 3 := by unfold toldL; rw [List.length_map]; exact fieldsL_le _
theorem sayN_app (a b : List Int) : sayN (a ++ b) = sayN a ++ sayN b := by simp [sayN]
theorem sayN_one (x : Int) : sayN [x] = 32 :: Lib.itoa x := by simp [sayN]
theorem sayN_len {xs : List Int} (h : xs.all inR = true) : (sayN xs).length ≤ xs.length * 20 := by
  induction xs with
  | nil => simp [sayN]
  | cons x r ih =>
    rw [List.all_cons, Bool.and_eq_true] at h
    have h1 := ih h.2
    have h2 := h.1
    unfold inR at h2
    simp only [Bool.and_eq_true, decide_eq_true_eq] at h2
    have h3 := itoa_len h2.1 h2.2
    have : sayN (x :: r) = 32 :: Lib.itoa x ++ sayN r := by simp [sayN]
    rw [this]; simp; omega
theorem sayS_len {s : Stp} (h : (toldL s).all inR = true) : (sayS s).length ≤ 68 := by
  unfold sayS
  have h1 := sayN_len h
  have h2 := toldL_le s
  have h3 := nameOf_le s.kind.toNat
  simp only [List.length_append, List.length_singleton]
  unfold nameI
  omega
end Go.Sc
namespace Go.Proofs.YtocfaflghcgniaaDoor
open Go Go.T Go.Proofs Go.Sc Go.RowKit
set_option linter.unusedSimpArgs false
set_option linter.unusedVariables false
set_option maxRecDepth 10000
set_option maxHeartbeats 4000000
def textV (o : Option Bs) : AV := .tup [strV (o.getD []), .int .i64 (if o.isSome then 0 else 1)]
theorem stpC_kind (s : Stp) : (stpC s).getD 0 .undef = .int .i64 s.kind := rfl
theorem cellsEq_stp (a b : Stp) : cellsEq (stpC a) (stpC b) = some (decide (a = b)) := by
  obtain ⟨a1, a2, a3, a4, a5⟩ := a
  obtain ⟨b1, b2, b3, b4, b5⟩ := b
  simp only [stpC, cellsEq, if_true, Option.map_some, Option.some.injEq, Stp.mk.injEq]
  rw [Bool.eq_iff_iff]
  simp
end Go.Proofs.YtocfaflghcgniaaDoor
