/- Part of a proof: what functions of the given program compute, and plain laws of it. -/
import Derived.Test.YtocfaflghcgniaaDoorZ8
import Derived.Test.YtocfaflghcgniaaDoorT3
import Derived.Test.YtocfaflghcgniaaDoorCards
import Derived.Test.YtocfaflghcgniaaDoorTie
import Derived.WalkKit
import Derived.ProofKit
import Derived.OpenShut
import Derived.ChangeOld
import Derived.Deep.DeepHandedRow
import Derived.Deep.DeepWitnessRowRef
import Derived.Lib.LaidTab
import Derived.Stop.LaidErr
import Derived.MakeChecks
/- The rows' openers: what is handed in, as plain values; what the list of variables gives; a world that fits. -/
namespace Go.Proofs.YtocfaflghcgniaaDoor
open Go Go.T Go.Sc Go.Proofs Go.ChangeShapes Go.WideShapes Go.ChangeAt Go.RowKit
theorem own : ownKnob Tryd.prog.godebug = none := by kernel_rfl
theorem laidOut : laidOutB Tryd.prog = true := by kernel_rfl
theorem len47 {P : Program} {el : TypeId} {n : Nat} (hb : 0 < P.bytesOf el) (h : n * P.bytesOf el ≤ reachBytes) : n ≤ 140737488355328 := by
  have h1 : n * 1 ≤ n * P.bytesOf el := Nat.mul_le_mul_left _ hb
  have h2 := reachBytes_lt
  omega
def isI (n : Int) : Prop := (Lit.int .i64 n).wf = true
theorem opInt : Opn Tryd.prog 3 Int (fun n => [.int .i64 n]) isI := (Opn.int Tryd.underlying3).iso id (fun _ => rfl) (fun _ h => h)
theorem opStr : Opn Tryd.prog 9 Bs (fun s => [strV s]) (fun s => s.length ≤ maxLen) :=
  (Opn.str Tryd.underlying9).iso (fun s => s.data.toList) (fun s => by rw [← strV_eq]) (fun s h => by simpa using h)
def isP (s : Stp) : Prop := isI s.kind ∧ isI s.node ∧ isI s.obj ∧ isI s.i ∧ isI s.j
theorem opStep : Opn Tryd.prog 36 Stp stpC isP :=
  (Opn.struct Tryd.underlying36 (n := 5) (by kernel_rfl)
    (OpnFs.cons (m := 1) rfl (by kernel_rfl) (by decide) opInt
    (OpnFs.cons (m := 1) rfl (by kernel_rfl) (by decide) opInt
    (OpnFs.cons (m := 1) rfl (by kernel_rfl) (by decide) opInt
    (OpnFs.cons (m := 1) rfl (by kernel_rfl) (by decide) opInt
    (OpnFs.cons (m := 1) rfl (by kernel_rfl) (by decide) opInt
    (OpnFs.nil 5))))))).iso (fun y => ⟨y.1, y.2.1, y.2.2.1, y.2.2.2.1, y.2.2.2.2.1⟩) (fun _ => rfl) (fun _ h => ⟨h.1, h.2.1, h.2.2.1, h.2.2.2.1, h.2.2.2.2.1⟩)
theorem opSteps : Opn Tryd.prog 23 (List Stp) (fun ys => [.l false 5 (ys.map encP)]) (fun ys => (∀ n ∈ ys, isP n) ∧ ys.length ≤ 140737488355328) :=
  (Opn.sliceW Tryd.underlying23 (by kernel_rfl) (by decide) true opStep (fun _ _ => rfl)).iso id (fun _ => rfl) (fun _ h => ⟨h.1, (len47 (of_decide_eq_true (by kernel_rfl)) h.2.2)⟩)
/-- The list of variables, once for all six rows. -/
def laidL : List (String × DataW Unit) := [("math/bits.deBruijn32tab", Rows.laid_math_bits_deBruijn32tab), ("math/bits.deBruijn64tab", Rows.laid_math_bits_deBruijn64tab), ("internal/strconv.uint64pow10", Rows.laid_internal_strconv_uint64pow10), ("unicode/utf8.acceptRanges", Rows.laid_unicode_utf8_acceptRanges), ("strconv.ErrRange", Rows.laid_strconv_ErrRange), ("strconv.ErrSyntax", Rows.laid_strconv_ErrSyntax), ("unicode/utf8.first", Rows.laid_unicode_utf8_first)]
theorem powG : Tryd.prog.globalNamed "internal/strconv.uint64pow10" = some 3 := by kernel_rfl
theorem powD : (Rows.laid_internal_strconv_uint64pow10 : DataW Unit) = Lib.tabData .u64 Lib.pow10Tab := by kernel_rfl
theorem powIs {W : World} (h : laidMetH Tryd.prog laidL W) : Lib.TabIs Tryd.prog W "internal/strconv.uint64pow10" .u64 Lib.pow10Tab := by
  rw [Go.MakeChecks.laidMetH_plain _ _ _ (by kernel_rfl)] at h
  have h2 := h.tail.tail
  rw [powD] at h2
  exact Lib.tabIs_of_head powG (by kernel_rfl) Tryd.underlying108 Tryd.underlying86 (by kernel_rfl) (by kernel_rfl) h2
/-- What a law may read: the powers of ten. -/
def powT : Nat → Option (List AV) := fun i => if i = 3 then some (Lib.pow10Tab.map (AV.int .u64)) else .none
theorem powH {h : Hp} (t : TabH powT h) : h.con powL = powC := t 3 _ rfl
theorem powW {W : World} (h : laidMetH Tryd.prog laidL W) : TabW powT W := by
  intro i cs hi
  unfold powT at hi
  split at hi
  · rename_i h3
    subst h3
    cases hi
    have h1 := powIs h
    unfold Lib.TabIs World.var? at h1
    rw [powG] at h1
    simp only [Option.bind_some] at h1
    split at h1
    · rename_i vs T f hh
      cases h1
      refine ⟨_, T, f, hh, by simp, fun j hj => ?_⟩
      have hj' : j < Lib.pow10Tab.length := by simpa using hj
      have e1 : (Lib.pow10Tab.map (AV.int .u64)).getD j .undef = .int .u64 (Lib.pow10Tab[j]) := by simp [List.getD_eq_getElem?_getD, hj']
      have e2 : ((Lib.pow10Tab.map fun z => Value.int .u64 z).toArray).getD j undef = .int .u64 (Lib.pow10Tab[j]) := by simp [Array.getD, hj']
      rw [e1, e2]
      exact .int _ _
    · cases h1
  · cases hi

/-- A WORLD FOR THE WITNESS. -/
noncomputable def laidWorld (os : Os) : World :=
  let N := (World.settled Tryd.prog os).heap.size
  let w0 := World.holding Tryd.prog os ⟨#[
    .cells #[.string ⟨#[118, 97, 108, 117, 101, 32, 111, 117, 116, 32, 111, 102, 32, 114, 97, 110, 103, 101]⟩] 127, .cells #[.string ⟨#[105, 110, 118, 97, 108, 105, 100, 32, 115, 121, 110, 116, 97, 120]⟩] 127], #[], []⟩
  let put (h : Array Obj) (g : Nat) (cs : Array Value) : Array Obj := h.modify g fun
    | .cells _ t frozen => .cells cs t frozen
    | o => o
  let ints (d : DataW Unit) : Array Value := match d with
    | .agg l => (l.flatMap fun
      | .lit (.int k n) => [Value.int k n]
      | .agg l => l.flatMap fun
        | .lit (.int k n) => [Value.int k n]
        | _ => []
      | _ => []).toArray
    | _ => #[]
  let h0 := put w0.heap 5 #[.iface 125 (.pointer (some ⟨N, 0, none⟩))]
  let h1 := put h0 4 #[.iface 125 (.pointer (some ⟨N + 1, 0, none⟩))]
  let h2 := put h1 3 (ints Rows.laid_internal_strconv_uint64pow10)
  let h3 := put h2 6 (ints Rows.laid_math_bits_deBruijn32tab)
  let h4 := put h3 7 (ints Rows.laid_math_bits_deBruijn64tab)
  let h5 := put h4 1 (ints Rows.laid_unicode_utf8_acceptRanges)
  let h6 := put h5 0 (ints Rows.laid_unicode_utf8_first)
  { w0 with heap := h6 }
theorem laid_met (os : Os) (args : Array Value) : laidMet Tryd.prog laidL ((laidWorld os).forCall (fun _ _ => 0) ⟨#[], args, []⟩).memory :=
  laidMet_of_run' 8 (by kernel_rfl) (by kernel_rfl)
end Go.Proofs.YtocfaflghcgniaaDoor
