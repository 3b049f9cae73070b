/- The reference's functions of layer 23: what they compute. -/
import Derived.Test.YtmajndgdfmnchaaZFacts
import Derived.Test.YtmajndgdfmnchaaT2
namespace Go.Proofs.Ytmajndgdfmnchaa
open Go Go.T Go.Gh Go.Proofs

def encN (n : Note) : AV := .agg [.int .i64 n.kind, .int .i64 n.obj, .int .i64 n.node, .int .i64 n.num, .int .i64 n.to, .int .i64 n.next]
theorem encN_cells (n : Note) : (encN n).cells = [.int .i64 n.kind, .int .i64 n.obj, .int .i64 n.node, .int .i64 n.num, .int .i64 n.to, .int .i64 n.next] := by simp [encN, AV.cells]

theorem wrapN {n : Nat} (h : n < 2 ^ 62) : IntKind.i64.wrap (n : Int) = n := IntWalk.i64_in _ (by omega)
theorem wrapS {n : Nat} (h : n < 2 ^ 62) : IntKind.i64.wrap ((n : Int) + 1) = ((n + 1 : Nat) : Int) := by
  rw [IntWalk.i64_in _ (by omega)]; simp

@[go_sem] theorem res71 : Try.f71.results = #[.tmp 6] := by kernel_rfl

set_option linter.unusedSimpArgs false
theorem f71_spec (ns : List Note) (ex : Bool) (obj node : Int) (hlen : ns.length < 2 ^ 61) :
    PureF Try.prog 71 [.l ex 6 (ns.map encN), .int .i64 obj, .int .i64 node] (.int .i64 (madeN ns obj node)) := by
  refine PureF.of_awp mixed (fun _ => []) (fn := Try.f71) (by kernel_rfl) rfl (by kernel_rfl) (by show 3 ≤ _; decide) (by simp [AV.lf]) (fun h => ?_)
  simp only [go_sem, Nat.reduceAdd, Nat.reduceBEq, Nat.reduceEqDiff, Nat.reduceLeDiff, Nat.reduceLT, Nat.reduceSub]
  rw [awp_loop]
  refine ⟨fun s => ∃ i : Nat, i ≤ ns.length ∧ s.slots 0 = .l ex 6 (ns.map encN) ∧ s.slots 1 = .int .i64 obj ∧ s.slots 2 = .int .i64 node ∧ s.slots 7 = .int .i64 (madeN (ns.take i) obj node) ∧ s.slots 10 = .l ex 6 (ns.map encN) ∧ s.slots 11 = .int .i64 ns.length ∧ s.slots 12 = .int .i64 i ∧ Keeps h s.hp,
    fun s => match s.slots 12 with | .int _ i => (ns.length - i).toNat | _ => 0, ?_, ?_⟩
  · refine ⟨0, ?_⟩
    simp only [go_sem, Nat.reduceAdd, Nat.reduceBEq, Nat.reduceEqDiff, Nat.reduceLeDiff, Nat.reduceLT, Nat.reduceSub]
    simp [madeN, Keeps.refl]
  · rintro s ⟨i, hi, h0, h1, h2, h7, h10, h11, h12, hH⟩
    simp only [go_sem, h0, h1, h2, h7, h10, h11, h12, encN_cells, Nat.reduceAdd, Nat.reduceBEq, Nat.reduceEqDiff, Nat.reduceLeDiff, Nat.reduceLT, Nat.reduceSub]
    refine ⟨fun hlt => ?_, fun hge => ?_⟩
    · have hlt : i < ns.length := by simpa using hlt
      have hm := madeN_le (ns.take i) obj node
      have hm' : madeN (ns.take i) obj node ≤ ns.length := Nat.le_trans hm (by simp; omega)
      have hv := hH.var 71 9 (.blk [.int .i64 0, .int .i64 0, .int .i64 0, .int .i64 0, .int .i64 0, .int .i64 0]) (.blk [.int .i64 ns[i].kind, .int .i64 ns[i].obj, .int .i64 ns[i].node, .int .i64 ns[i].num, .int .i64 ns[i].to, .int .i64 ns[i].next])
      have hst := madeN_step ns obj node i hlt
      rw [wrapS (by omega), wrapS (by omega)]
      have hdec : (((ns.length : Int) - ((i + 1 : Nat) : Int)).toNat < ((ns.length : Int) - (i : Int)).toNat) := by omega
      refine ⟨by omega, hlt, fun c1 => ⟨fun c2 => ⟨fun c3 => ⟨⟨i + 1, hlt, ?_, rfl, hv⟩, hdec⟩, fun c3 => ⟨⟨i + 1, hlt, ?_, rfl, hv⟩, hdec⟩⟩, fun c2 => ⟨⟨i + 1, hlt, ?_, rfl, hv⟩, hdec⟩⟩, fun c1 => ⟨⟨i + 1, hlt, ?_, rfl, hv⟩, hdec⟩⟩
      all_goals rw [hst]; simp [isMade, *]
    · have hge : i = ns.length := by
        have : ¬ i < ns.length := by simpa using hge
        omega
      subst hge
      simpa using hH

@[go_sem] theorem res72 : Try.f72.results = #[.tmp 10] := by kernel_rfl
theorem f72_spec (home : Int) (ns : List Note) (ex : Bool) (obj node num : Int) (hlen : ns.length < 2 ^ 61) :
    PureF Try.prog 72 [.int .i64 home, .l ex 6 (ns.map encN), .int .i64 obj, .int .i64 node, .int .i64 num] (.bool (thereB home ns obj node num)) := by
  refine PureF.of_awp mixed (fun _ => []) (fn := Try.f72) (by kernel_rfl) rfl (by kernel_rfl) (by show 5 ≤ _; decide) (by simp [AV.lf]) (fun h => ?_)
  simp only [go_sem, Nat.reduceAdd, Nat.reduceBEq, Nat.reduceEqDiff, Nat.reduceLeDiff, Nat.reduceLT, Nat.reduceSub]
  refine ⟨fun c1 => CallX.pure (f71_spec ns ex obj node hlen) ?_, fun c1 => ?_⟩
  · simp only [go_sem, Nat.reduceAdd, Nat.reduceBEq, Nat.reduceEqDiff, Nat.reduceLeDiff, Nat.reduceLT, Nat.reduceSub]
    simp only [thereB, Keeps.refl]
    have c1 : 1 ≤ num := by simpa using c1
    have c0 : ¬ num = 0 := by omega
    by_cases c2 : num ≤ madeN ns obj node <;> by_cases c3 : node = home <;> simp [c1, c2, c3, c0, Keeps.refl]
  · have c1 : ¬ 1 ≤ num := by simpa using c1
    by_cases c2 : num = 0 <;> by_cases c3 : node = home <;> simp [thereB, c1, c2, c3, Keeps.refl]
end Go.Proofs.Ytmajndgdfmnchaa
