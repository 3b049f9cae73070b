/- GhostChecks, for every input: 'fletchlaw23.GhostChecks' answers true, and what is handed in reads as before. -/
import Derived.Test.YtmajndgdfmnchaaZK
import Derived.Test.YtmajndgdfmnchaaT2
import Derived.Test.YtmajndgdfmnchaaRows
import Derived.WalkKit
import Derived.ProofKit
import Derived.OpenShut
import Derived.ChangeOld
namespace Go.Proofs.Ytmajndgdfmnchaa
open Go Go.T Go.Gh Go.Proofs Go.ChangeShapes Go.WideShapes Go.ChangeAt Go.RowKit
theorem own : ownKnob Try.prog.godebug = none := by kernel_rfl
theorem laidOut : laidOutB Try.prog = true := by kernel_rfl
def isI (n : Int) : Prop := (Lit.int .i64 n).wf = true
theorem opInt : Opn Try.prog 3 Int (fun n => [I n]) isI := (Opn.int Try.underlying3).iso id (fun _ => rfl) (fun _ h => h)
theorem opHomes : Opn Try.prog 22 (List Int) (fun ys => [.l false 1 (ys.map I)]) (fun ys => (∀ n ∈ ys, isI n) ∧ ys.length ≤ maxLen) :=
  (Opn.slice Try.underlying22 (by kernel_rfl) (by decide) false opInt (fun _ _ => rfl)).iso id (fun _ => rfl) (fun _ h => h)
def isN (n : Note) : Prop := isI n.kind ∧ isI n.obj ∧ isI n.node ∧ isI n.num ∧ isI n.to ∧ isI n.next
theorem opNote : Opn Try.prog 37 Note (fun n => [I n.kind, I n.obj, I n.node, I n.num, I n.to, I n.next]) isN :=
  (Opn.struct Try.underlying37 (n := 6) (by kernel_rfl)
    (OpnFs.cons (m := 1) rfl (by kernel_rfl) (by decide) opInt
    (OpnFs.cons (m := 1) rfl (by kernel_rfl) (by decide) opInt
    (OpnFs.cons (m := 1) rfl (by kernel_rfl) (by decide) opInt
    (OpnFs.cons (m := 1) rfl (by kernel_rfl) (by decide) opInt
    (OpnFs.cons (m := 1) rfl (by kernel_rfl) (by decide) opInt
    (OpnFs.cons (m := 1) rfl (by kernel_rfl) (by decide) opInt
    (OpnFs.nil 6)))))))).iso (fun y => ⟨y.1, y.2.1, y.2.2.1, y.2.2.2.1, y.2.2.2.2.1, y.2.2.2.2.2.1⟩) (fun _ => rfl) (fun _ h => ⟨h.1, h.2.1, h.2.2.1, h.2.2.2.1, h.2.2.2.2.1, h.2.2.2.2.2.1⟩)
theorem opNotes : Opn Try.prog 23 (List Note) (fun ys => [.l false 6 (ys.map encN)]) (fun ys => (∀ n ∈ ys, isN n) ∧ ys.length ≤ maxLen) :=
  (Opn.slice Try.underlying23 (by kernel_rfl) (by decide) true opNote (fun _ _ => rfl)).iso id (fun _ => rfl) (fun _ h => h)

set_option linter.unusedVariables false
set_option maxRecDepth 100000 in
theorem ghostChecks_lifted (os : Os) (started : os.Started) (H : Type) (enc : TypeId × Value → H) :
    ReturnsInHanded {} Try.checked os 3 .any (Rows.ghostChecksSpec.pre6 enc Try.prog Try.f3 Rows.ghostChecksRow.domain false) (Rows.ghostChecksSpec.post enc Try.prog Try.f3 false true false false) := by
  refine returnsInHanded_of_change (C := Try.checked) own started (by kernel_rfl) Try.func3
    (ChangeSpec.witness6 (enc := enc) (C := Try.checked) false ⟨#[], #[.slice none 0 0, .slice none 0 0], []⟩ 8 (by kernel_rfl) (by kernel_rfl) (by kernel_rfl) (by kernel_rfl)) ?_
  intro W base args ds gs before hval0 hW hcnd _
  have hval : ∀ (j : Nat) t v, Try.f3.params[j]? = some t → args[j]? = some v → Value.okWide Try.prog W .any base t v := hval0
  have hW' := hW
  obtain ⟨p, q, hA0, hV, rfl, hfz, hnd⟩ := hW
  have hA : DataW.TrodAll enc Try.prog W 0 (fun _ => true) true Try.f3.params.toList args.toList ds p := hA0
  rw [Try.params3] at hA hval
  obtain ⟨v0, vs0, d0, ds0, p0, q0, hargs, rfl, rfl, h0, r0⟩ := trodAll_cons hA
  obtain ⟨v1, vs1, d1, ds1, p1, q1, rfl, rfl, rfl, h1, r1⟩ := trodAll_cons r0
  obtain ⟨rfl, rfl, rfl⟩ := trodAll_nil r1
  obtain rfl : args = #[v0, v1] := by cases args; simp_all
  obtain ⟨rfl, rfl⟩ := trodVars_none hV
  obtain ⟨a0, len0, cap0, rfl⟩ := okWide_slice Try.underlying22 (hval 0 22 v0 rfl rfl)
  have k0 := h0
  have lt0 : ∀ x ∈ p0, x.block < W.heap.size := by obtain ⟨m, hm⟩ := k0; exact DataW.trod_lt m _ _ _ hm
  obtain ⟨a1, len1, cap1, rfl⟩ := okWide_slice Try.underlying23 (hval 1 23 v1 rfl rfl)
  have k1 := h1
  have lt1 : ∀ x ∈ p1, x.block < W.heap.size := by obtain ⟨m, hm⟩ := k1; exact DataW.trod_lt m _ _ _ hm
  clear hA0 hval0
  obtain ⟨homes, V0, R0⟩ := opHomes.arg rfl h0
  obtain ⟨ns, V1, R1⟩ := opNotes.arg rfl h1
  refine (law_calls (f3_spec homes false ns false) W #[.slice a0 len0 cap0, .slice a1 len1 cap1] rfl (fun i hi => ?_)).mono fun e W' ⟨he, bel⟩ => ?_
  · match i, hi with
    | 0, _ => exact R0
    | 1, _ => exact R1
  subst he
  exact ⟨_, rfl, _, _, _, [], _, [], hW', trodAll_mk1 (shut_bool Try.underlying4 _), trodAll_cons_mk (Below.trod laidOut (by kernel_rfl) (of_decide_eq_true (by kernel_rfl)) k0 bel lt0) (trodAll_cons_mk (Below.trod laidOut (by kernel_rfl) (of_decide_eq_true (by kernel_rfl)) k1 bel lt1) trodAll_mk0), rfl, bel.frame _, fun h => by cases h⟩
theorem ghostChecks_over : Rows.ghostChecksRow.holds Try.pinned (OpenSpec.ofChange Rows.ghostChecksSpec) :=
  OpenClaim.holds_of_wide 3 Try.f3 rfl rfl rfl rfl rfl rfl rfl ⟨rfl, rfl, rfl, rfl, rfl⟩ rfl rfl rfl rfl rfl (by kernel_rfl) Try.func3 (by kernel_rfl)
    (of_decide_eq_true (by kernel_rfl)) (by unfold Func.isWrapper; first | (rw [if_pos (by decide +kernel)]; kernel_rfl) | (rw [if_neg (by decide +kernel)]; exact ⟨rfl, rfl⟩))
    (fun os started H enc _ => ghostChecks_lifted os started H enc)
theorem ghostChecks_proved : Rows.GhostChecksSaid := ghostChecks_over
#print axioms ghostChecks_proved
end Go.Proofs.Ytmajndgdfmnchaa
