/- Part of a proof: what functions of the given program compute, and plain laws of it. -/
import Derived.Shelf.Lays8
import Derived.Test.YtmajndgdfmnchaaT4
import Derived.Test.YtmajndgdfmnchaaZ12
/- slices.Grow of the nil slice of messages; slices.Concat of two. -/
namespace Go.Proofs.Ytmajndgdfmnchaa
open Go Go.T Go.Gh Go.Proofs Go.Shelf
set_option linter.unusedSimpArgs false
set_option maxRecDepth 100000
set_option maxHeartbeats 4000000
def grRen : Shelf.Ren :=
{
  f := fun x =>
    match x with
    | 4 => 95
    | n => n,
  t := fun x =>
    match x with
    | 22 => 49
    | 25 => 54
    | 3 => 3
    | 4 => 4
    | 9 => 9
    | 20 => 20
    | 0 => 0
    | n => n,
  g := fun x =>
    have n := x;
    n }
theorem grLays : Lays8.n4 Try.prog grRen :=
{ mixed := Eq.refl true,
  f4 :=
    Exists.intro "slices.Grow[[]fletch/api.Msg,fletch/api.Msg]"
      ⟨of_decide_eq_true (id (Eq.refl true)),
        Eq.trans Try.func95
          (congrArg some
            (Eq.refl _))⟩,
  t0 := Try.underlying0, a0 := Try.isAgg0, z0 := Try.sizeOf0, v0 := Try.zeroValue0, t3 := Try.underlying3,
  a3 := Try.isAgg3, z3 := Try.sizeOf3, v3 := Try.zeroValue3, t4 := Try.underlying4, a4 := Try.isAgg4, z4 := Try.sizeOf4,
  v4 := Try.zeroValue4, t9 := Try.underlying9, a9 := Try.isAgg9, z9 := Try.sizeOf9, v9 := Try.zeroValue9,
  t20 := Try.underlying20, a20 := Try.isAgg20, z20 := Try.sizeOf20, v20 := Try.zeroValue20, t22 := Try.underlying49,
  a22 := Try.isAgg49, z22 := Try.sizeOf49, v22 := Try.zeroValue49 }
theorem grInfo : ∃ i z, Try.prog.info? 54 = some i ∧ i.zero = some z ∧ i.size = 5 ∧ i.bytes = 40 ∧ z.cells.size = 5 := by
  have h1 : tsz Try.prog 54 = 5 := tsz54
  have h2 : tbytes Try.prog 54 = 40 := tby54
  have h3 : tok Try.prog 54 = true := tok54
  unfold tsz at h1; unfold tbytes at h2; unfold tok at h3
  cases hi : Try.prog.info? 54 with
  | none => rw [hi] at h1; simp at h1
  | some i =>
    rw [hi] at h1 h2 h3
    simp only at h1 h2 h3
    cases hz : i.zero with
    | none => rw [hz] at h3; simp at h3
    | some z =>
      rw [hz] at h3
      simp only [Bool.and_eq_true] at h3
      exact ⟨i, z, rfl, hz, h1, h2, by simpa [h1] using h3.1.2⟩
theorem Grow_nil (fid s ex n : Nat) (hn : n * 40 ≤ 2 ^ 47) (h : Hp) (K : AV → Hp → Prop)
    (hK0 : n = 0 → K (.l true ex []) h) (hK1 : 0 < n → K (.os (h.fresh fid s)) (h.alloc fid s (.arr 5 []))) : CallK Try.prog 95 [.l true ex [], .int .i64 n] h K := by
  obtain ⟨i, z, h1, h2, h3, h4, h5⟩ := grInfo
  exact CallK.growNil grLays rfl i z h1 h2 (by omega) (by omega) fid s 5 ex n (by rw [h4]; exact hn) (by omega) h3.symm h K hK0 hK1
def rowM (ms : List Msg) : AV := .l false 5 (ms.map encM)
def sumL (xss : List (List Msg)) : Nat := (xss.map List.length).sum
theorem rowM_lf (ms : List Msg) : (rowM ms).lf = true := by simp [rowM, AV.lf, M_lfs]
theorem sumL_next {xss : List (List Msg)} {i : Nat} (h : i < xss.length) : sumL (xss.take (i + 1)) = sumL (xss.take i) + xss[i].length := by
  rw [List.take_succ_eq_append_getElem h]; simp only [sumL, List.map_append, List.sum_append, List.map_cons, List.map_nil, List.sum_cons, List.sum_nil, Nat.add_zero]
theorem sumL_le (xss : List (List Msg)) (i : Nat) : sumL (xss.take i) ≤ sumL xss := by
  have h : sumL xss = sumL (xss.take i) + sumL (xss.drop i) := by
    conv => lhs; rw [← List.take_append_drop i xss]
    simp only [sumL, List.map_append, List.sum_append]
  omega
theorem sumL_flat (xss : List (List Msg)) : xss.flatten.length = sumL xss := by simp [sumL, List.length_flatten]
theorem Concat_spec (xss : List (List Msg)) (e : Bool) (hb : sumL xss < 2 ^ 30) (hl : xss.length < 2 ^ 30) : PureF Try.prog 61 [.l e 1 (xss.map rowM)] (rowM xss.flatten) := by
  refine PureF.of_awpZ mixed (fun _ => []) (fn := Try.f61) (by kernel_rfl) rfl (by kernel_rfl) (by show 1 ≤ _; decide) (by simp [rowM_lf]) (fun h => ?_)
  repeat' first
    | (with_reducible refine CondX.dec (fun c => ?_) (fun c => ?_)) <;> try (exfalso; omega)
    | (with_reducible refine CondX.beq (fun c => ?_) (fun c => ?_)) <;> try (exfalso; omega)
    | (with_reducible refine CondX.bne (fun c => ?_) (fun c => ?_)) <;> try (exfalso; omega)
    | (with_reducible refine CondX.bool (fun c => ?_) (fun c => ?_)) <;> try (exfalso; omega)
    | simp only [go_sem, I_eq, I_cells, Nat.reduceAdd, Nat.reduceBEq, Nat.reduceEqDiff, Nat.reduceLeDiff, Nat.reduceLT, Nat.reduceSub]
    | simp (disch := omega) only [wrap_in, toNat_succ, toNat_pred, Int.toNat_natCast]
    | with_reducible refine And.intro (by omega) ?_
    | with_reducible refine exI (by omega) ?_
    | fail
  refine awp_count 11 10 xss.length (by omega) (fun i t => t.slots 0 = .l e 1 (xss.map rowM) ∧ t.slots 9 = .l e 1 (xss.map rowM) ∧ t.slots 3 = .int .i64 (sumL (xss.take i)) ∧ t.hp = h) ?_ ?_ ?_ ?_ ?_
  · simp only [go_sem, I_eq, I_cells, Nat.reduceAdd, Nat.reduceBEq, Nat.reduceEqDiff, Nat.reduceLeDiff, Nat.reduceLT, Nat.reduceSub]
  · simp only [go_sem, I_eq, I_cells, Nat.reduceAdd, Nat.reduceBEq, Nat.reduceEqDiff, Nat.reduceLeDiff, Nat.reduceLT, Nat.reduceSub]
  · simp only [go_sem, I_eq, I_cells, Nat.reduceAdd, Nat.reduceBEq, Nat.reduceEqDiff, Nat.reduceLeDiff, Nat.reduceLT, Nat.reduceSub]
    simp [sumL]
  · rintro i t hlt d2 hw g11 g10 ⟨g0, g9, g3, gH⟩
    have h1 := sumL_next hlt
    have h2 := sumL_le xss (i + 1)
    repeat' first
      | (with_reducible refine CondX.dec (fun c => ?_) (fun c => ?_)) <;> try (exfalso; omega)
      | (with_reducible refine CondX.beq (fun c => ?_) (fun c => ?_)) <;> try (exfalso; omega)
      | (with_reducible refine CondX.bne (fun c => ?_) (fun c => ?_)) <;> try (exfalso; omega)
      | (with_reducible refine CondX.bool (fun c => ?_) (fun c => ?_)) <;> try (exfalso; omega)
      | simp only [go_sem, I_eq, I_cells, g0, g9, g3, gH, g10, g11, d2, hw, rowM, Nat.reduceAdd, Nat.reduceBEq, Nat.reduceEqDiff, Nat.reduceLeDiff, Nat.reduceLT, Nat.reduceSub]
      | simp (disch := omega) only [wrap_in, toNat_succ, toNat_pred, Int.toNat_natCast]
      | with_reducible refine And.intro (by omega) ?_
      | with_reducible refine exI (by omega) ?_
      | fail
    rw [h1]; simp
  · rintro t d2 g11 g10 ⟨g0, g9, g3, gH⟩
    rw [List.take_length] at g3
    repeat' first
      | (with_reducible refine CondX.dec (fun c => ?_) (fun c => ?_)) <;> try (exfalso; omega)
      | (with_reducible refine CondX.beq (fun c => ?_) (fun c => ?_)) <;> try (exfalso; omega)
      | (with_reducible refine CondX.bne (fun c => ?_) (fun c => ?_)) <;> try (exfalso; omega)
      | (with_reducible refine CondX.bool (fun c => ?_) (fun c => ?_)) <;> try (exfalso; omega)
      | simp only [go_sem, I_eq, I_cells, g0, g9, g3, gH, g10, g11, d2, Nat.reduceAdd, Nat.reduceBEq, Nat.reduceEqDiff, Nat.reduceLeDiff, Nat.reduceLT, Nat.reduceSub]
      | simp (disch := omega) only [wrap_in, toNat_succ, toNat_pred, Int.toNat_natCast]
      | with_reducible refine And.intro (by omega) ?_
      | with_reducible refine exI (by omega) ?_
      | fail
    refine CallX.of ((Grow_nil 61 24 0 (sumL xss) (by omega) _ (fun v H => Acc h H 5 v [] ∧ Keeps h H) (fun _ => ⟨.nil, .refl _⟩) (fun _ => ⟨.own _ _ (by simp only [go_sem, I_eq, I_cells, Nat.reduceAdd, Nat.reduceBEq, Nat.reduceEqDiff, Nat.reduceLeDiff, Nat.reduceLT, Nat.reduceSub]) ((Keeps.refl h).new _ _), by ((repeat first | with_reducible apply Keeps.alloc | (with_reducible refine Keeps.set ?_ ?hL _; case hL => first | assumption | exact Hp.ok _ _ (by simp) | exact Keeps.new (by assumption) _ _)); first | assumption | exact Keeps.refl _)⟩)).mono ?_)
    rintro v H ⟨ga, gk⟩
    repeat' first
      | (with_reducible refine CondX.dec (fun c => ?_) (fun c => ?_)) <;> try (exfalso; omega)
      | (with_reducible refine CondX.beq (fun c => ?_) (fun c => ?_)) <;> try (exfalso; omega)
      | (with_reducible refine CondX.bne (fun c => ?_) (fun c => ?_)) <;> try (exfalso; omega)
      | (with_reducible refine CondX.bool (fun c => ?_) (fun c => ?_)) <;> try (exfalso; omega)
      | simp only [go_sem, I_eq, I_cells, g0, g9, g3, gH, g10, g11, d2, Nat.reduceAdd, Nat.reduceBEq, Nat.reduceEqDiff, Nat.reduceLeDiff, Nat.reduceLT, Nat.reduceSub]
      | simp (disch := omega) only [wrap_in, toNat_succ, toNat_pred, Int.toNat_natCast]
      | with_reducible refine And.intro (by omega) ?_
      | with_reducible refine exI (by omega) ?_
      | fail
    refine awp_count 27 26 xss.length (by omega) (fun i t => t.slots 25 = .l e 1 (xss.map rowM) ∧ ∃ v, t.slots 6 = v ∧ Acc h t.hp 5 v ((xss.take i).flatten.map encM) ∧ Keeps h t.hp) ?_ ?_ ?_ ?_ ?_
    · simp only [go_sem, I_eq, I_cells, Nat.reduceAdd, Nat.reduceBEq, Nat.reduceEqDiff, Nat.reduceLeDiff, Nat.reduceLT, Nat.reduceSub]
    · simp only [go_sem, I_eq, I_cells, Nat.reduceAdd, Nat.reduceBEq, Nat.reduceEqDiff, Nat.reduceLeDiff, Nat.reduceLT, Nat.reduceSub]
    · simp only [go_sem, I_eq, I_cells, g0, Nat.reduceAdd, Nat.reduceBEq, Nat.reduceEqDiff, Nat.reduceLeDiff, Nat.reduceLT, Nat.reduceSub]
      exact ⟨v, rfl, ga, gk⟩
    · clear g0 g9 g3 gH g10 g11 d2
      rintro i t hlt d2 hw g27 g26 ⟨g25, v, g6, ga, gk⟩
      have h1 := sumL_next hlt
      have h2 := sumL_le xss (i + 1)
      have h3 := sumL_flat (xss.take i)
      repeat' first
        | (with_reducible refine CondX.dec (fun c => ?_) (fun c => ?_)) <;> try (exfalso; omega)
        | (with_reducible refine CondX.beq (fun c => ?_) (fun c => ?_)) <;> try (exfalso; omega)
        | (with_reducible refine CondX.bne (fun c => ?_) (fun c => ?_)) <;> try (exfalso; omega)
        | (with_reducible refine CondX.bool (fun c => ?_) (fun c => ?_)) <;> try (exfalso; omega)
        | simp only [go_sem, I_eq, I_cells, g25, g6, g26, g27, d2, hw, rowM, Nat.reduceAdd, Nat.reduceBEq, Nat.reduceEqDiff, Nat.reduceLeDiff, Nat.reduceLT, Nat.reduceSub]
        | simp (disch := omega) only [wrap_in, toNat_succ, toNat_pred, Int.toNat_natCast]
        | with_reducible refine And.intro (by omega) ?_
        | with_reducible refine exI (by omega) ?_
        | fail
      refine ga.app gk (by simp only [List.length_map]; omega) (by simp only [List.length_map]; omega) (by decide) fun H' v' a' kp' fr1 fr2 ev => ?_
      repeat' first
        | (with_reducible refine CondX.dec (fun c => ?_) (fun c => ?_)) <;> try (exfalso; omega)
        | (with_reducible refine CondX.beq (fun c => ?_) (fun c => ?_)) <;> try (exfalso; omega)
        | (with_reducible refine CondX.bne (fun c => ?_) (fun c => ?_)) <;> try (exfalso; omega)
        | (with_reducible refine CondX.bool (fun c => ?_) (fun c => ?_)) <;> try (exfalso; omega)
        | simp only [go_sem, I_eq, I_cells, g25, g6, g26, g27, d2, hw, rowM, Nat.reduceAdd, Nat.reduceBEq, Nat.reduceEqDiff, Nat.reduceLeDiff, Nat.reduceLT, Nat.reduceSub]
        | simp (disch := omega) only [wrap_in, toNat_succ, toNat_pred, Int.toNat_natCast]
        | with_reducible refine And.intro (by omega) ?_
        | with_reducible refine exI (by omega) ?_
        | fail
      refine ⟨_, rfl, ?_, kp'⟩
      rw [List.take_succ_eq_append_getElem hlt, List.flatten_append, List.map_append]
      simpa using a'
    · clear g0 g9 g3 gH g10 g11 d2
      rintro t d2 g27 g26 ⟨g25, v, g6, ga, gk⟩
      rw [List.take_length] at ga
      repeat' first
        | (with_reducible refine CondX.dec (fun c => ?_) (fun c => ?_)) <;> try (exfalso; omega)
        | (with_reducible refine CondX.beq (fun c => ?_) (fun c => ?_)) <;> try (exfalso; omega)
        | (with_reducible refine CondX.bne (fun c => ?_) (fun c => ?_)) <;> try (exfalso; omega)
        | (with_reducible refine CondX.bool (fun c => ?_) (fun c => ?_)) <;> try (exfalso; omega)
        | simp only [go_sem, I_eq, I_cells, g25, g6, g26, g27, d2, Nat.reduceAdd, Nat.reduceBEq, Nat.reduceEqDiff, Nat.reduceLeDiff, Nat.reduceLT, Nat.reduceSub]
        | simp (disch := omega) only [wrap_in, toNat_succ, toNat_pred, Int.toNat_natCast]
        | with_reducible refine And.intro (by omega) ?_
        | with_reducible refine exI (by omega) ?_
        | fail
      exact ga.frz gk
end Go.Proofs.Ytmajndgdfmnchaa
