/- Part of a proof: what functions of the given program compute, and plain laws of it. -/
import Derived.Sort.WalkA14
import Derived.Shelf.Small.Bits
import Derived.Test.YtmajndgdfmnchaaZ6
/- slices.Sort of no element. -/
namespace Go.Proofs.Ytmajndgdfmnchaa
open Go Go.T Go.Gh Go.Proofs Go.RowKit Go.Sort Go.Shelf
theorem slLen : Lays.n125 Try.prog slRen := { mixed := slLays.mixed, f125 := slLays.f125, f128 := slLays.f128, f129 := slLays.f129, t3 := slLays.t3, a3 := slLays.a3, z3 := slLays.z3, v3 := slLays.v3, t4 := slLays.t4, a4 := slLays.a4, z4 := slLays.z4, v4 := slLays.v4, t5 := slLays.t5, a5 := slLays.a5, z5 := slLays.z5, v5 := slLays.v5, t9 := slLays.t9, a9 := slLays.a9, z9 := slLays.z9, v9 := slLays.v9, t46 := slLays.t46, a46 := slLays.a46, z46 := slLays.z46, v46 := slLays.v46, t51 := slLays.t51, a51 := slLays.a51, z51 := slLays.z51, v51 := slLays.v51, t53 := slLays.t53, a53 := slLays.a53, z53 := slLays.z53, v53 := slLays.v53 }
theorem insertion_nil (p : Option Addr) (cap : Nat) (w : World) :
    Calls Try.prog 97 #[.slice p 0 cap, .int .i64 0, .int .i64 0] w fun e w' => e = .returned (.tuple #[]) ∧ w' = w := by
  go_enter Try.func97, Try.ntmps97
  go_wp2
  refine wp_loop_rounds 1 ?_
  rw [rounds_succ]
  go_wp2
  go_end0
  exact ⟨rfl, rfl⟩
set_option maxRecDepth 100000 in
theorem pdq_nil (p : Option Addr) (cap : Nat) (w : World) :
    Calls Try.prog 77 #[.slice p 0 cap, .int .i64 0, .int .i64 0, .int .i64 0] w fun e w' => e = .returned (.tuple #[]) ∧ w' = w := by
  go_enter Try.func77, Try.ntmps77
  go_wp2
  refine wp_loop_rounds 1 ?_
  rw [rounds_succ]
  go_wp2_with (first | (go_at_call 97; refine (insertion_nil p cap _).mono ?_; rintro e w' ⟨rfl, rfl⟩))
  refine bodyPost_ret (results_none rfl _ _ _) rfl ?_
  exact ⟨rfl, rfl⟩
set_option maxRecDepth 100000 in
theorem sort_nil (p : Option Addr) (cap : Nat) (w : World) :
    Calls Try.prog 48 #[.slice p 0 cap] w fun e w' => e = .returned (.tuple #[]) ∧ w' = w := by
  have hLen : ∀ w, Calls Try.prog 78 #[.int .u64 0] w fun e w' => e = .returned (.int .i64 0) ∧ w' = w := fun w => Any.bits_Len (P := Try.prog) (ρ := slRen) slLen 0 w (by omega) (by omega)
  go_enter Try.func48, Try.ntmps48
  go_wp2_with (first
    | (go_at_call 78; refine (hLen _).mono ?_; rintro e w' ⟨rfl, rfl⟩)
    | (go_at_call 77; refine (pdq_nil p cap _).mono ?_; rintro e w' ⟨rfl, rfl⟩))
  go_end0
  exact ⟨rfl, rfl⟩
/-- At nothing the sort does nothing. -/
theorem f48_nil (ex : Bool) (sz : Nat) : PureF Try.prog 48 [.l ex sz []] (.tup []) := by
  intro h w B e vs hh hs hR
  have r0 := hR 0 (by simp)
  simp only [List.getD_cons_zero] at r0
  have hv : ∃ a c, vs = #[.slice a 0 c] := by
    have key : ∀ v, vs.getD 0 undef = v → vs = #[v] := by
      intro v hv
      apply Array.ext
      · simpa using hs
      · intro i hi1 hi2
        have hi : i = 0 := by simp at hi2; omega
        subst hi
        rw [Array.getD_eq_getD_getElem?, Array.getElem?_eq_getElem hi1] at hv
        simpa using hv
    generalize hg : vs.getD 0 undef = v at r0
    cases r0 with
    | l0 _ _ a c hx => exact ⟨a, c, key _ hg⟩
    | l _ _ _ _ _ _ _ hne => exact absurd rfl hne
    | ref _ _ hr => exact hr.elim
  obtain ⟨a, c, rfl⟩ := hv
  refine (sort_nil a c w).mono ?_
  rintro en w' ⟨rfl, rfl⟩
  exact ⟨.tuple #[], .tup [], h, B, e, rfl, hh, Ext.refl _ _ _ _, .tup _ _ rfl (fun j hj => absurd hj (by simp)), rfl, rfl⟩
end Go.Proofs.Ytmajndgdfmnchaa
