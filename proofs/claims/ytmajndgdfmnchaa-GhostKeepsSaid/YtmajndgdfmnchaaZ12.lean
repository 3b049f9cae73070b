/- Part of a proof: what functions of the given program compute, and plain laws of it. -/
import Derived.Test.YtmajndgdfmnchaaZ3
/- ghost's Queue: the iterator. -/
namespace Go.Proofs.Ytmajndgdfmnchaa
open Go Go.T Go.Gh Go.Proofs
set_option linter.unusedSimpArgs false
@[go_sem] theorem oneOf_nil : oneOf [] = .tup [] := by simp [oneOf]
def qsOf (known : Bool) (home : Int) (obj : Int) (ns : List Note) : List (Int × Int) := if known then queueL obj ns (ns.length + 1) (home, 0) else []
end Go.Proofs.Ytmajndgdfmnchaa
/- The reference's Queue. -/
namespace Go.Proofs.Ytmajndgdfmnchaa
open Go Go.T Go.Gh Go.Proofs
set_option linter.unusedSimpArgs false
@[go_sem] theorem res15 : Try.f15.results = #[.tmp 6] := by kernel_rfl
def OutS (h H : Hp) (v : AV) (out : List (Int × Int)) : Prop := (out = [] ∧ v = .l true 0 []) ∨ ∃ Lo, v = .os Lo ∧ H.con Lo = .arr 2 (out.map pairA) ∧ h.con Lo = .none
theorem pairA_lfs (qs : List (Int × Int)) : AV.lfs (qs.map pairA) = true := by
  rw [lfs_iff]; intro x hx
  obtain ⟨n, _, rfl⟩ := List.mem_map.1 hx
  simp [pairA, AV.lf, AV.lfs]
@[go_sem] theorem pairA_cells (k : Int × Int) : (pairA k).cells = [.int .i64 k.1, .int .i64 k.2] := by simp [pairA, AV.cells]
def outLen (H : Hp) (v : AV) : Nat := match v with
  | .os L => (match H.con L with | .arr _ xs => xs.length | _ => 0)
  | _ => 0
theorem OutS.len {h H : Hp} {v : AV} {out : List (Int × Int)} (o : OutS h H v out) : outLen H v = out.length := by
  rcases o with ⟨rfl, rfl⟩ | ⟨Lo, rfl, h1, h2⟩
  · rfl
  · simp [outLen, h1]
theorem OutS.fin {h H : Hp} {v : AV} {out : List (Int × Int)} (o : OutS h H v out) (k : Keeps h H) : ∃ h'', Frz H v h'' (.l false 2 (out.map pairA)) ∧ Keeps h h'' := by
  rcases o with ⟨rfl, rfl⟩ | ⟨Lo, rfl, h1, h2⟩
  · exact ⟨H, .done _ _ _ Le.l0, k⟩
  · refine ⟨_, .step _ Lo _ _ _ (.done _ _ _ ?_), k.set h2 _⟩
    rw [h1]; simp [AV.frz]; exact Le.refl _
set_option maxRecDepth 10000 in
set_option maxHeartbeats 8000000 in
theorem f15_spec (homes : List Int) (eh : Bool) (ns : List Note) (ex : Bool) (obj : Int) (hlen : ns.length < 2 ^ 30) : PureF Try.prog 15 [.l eh 1 (homes.map I), .l ex 6 (ns.map encN), .int .i64 obj] (.l false 2 ((queueR homes ns obj).map pairA)) := by
  refine PureF.of_awpZ mixed (fun _ => []) (fn := Try.f15) (by kernel_rfl) rfl (by kernel_rfl) (by show 3 ≤ _; decide) (by simp [AV.lf, pairA_lfs]) (fun h => ?_)
  by_cases hob : ¬ (0 ≤ obj ∧ obj < homes.length)
  · have hq : queueR homes ns obj = [] := by unfold queueR; rw [if_neg hob]
    cases b1 : decide (obj < 0)
    · have b2 : decide (obj ≥ homes.length) = true := by simp at b1 ⊢; omega
      simp only [go_sem, hq, b1, b2, Nat.reduceAdd, Nat.reduceBEq, Nat.reduceEqDiff, Nat.reduceLeDiff, Nat.reduceLT, Nat.reduceSub, Int.reduceToNat]
      exact ⟨h, .done _ _ _ Le.l0, Keeps.refl h⟩
    · simp only [go_sem, hq, b1, Nat.reduceAdd, Nat.reduceBEq, Nat.reduceEqDiff, Nat.reduceLeDiff, Nat.reduceLT, Nat.reduceSub, Int.reduceToNat]
      exact ⟨h, .done _ _ _ Le.l0, Keeps.refl h⟩
  have hob : 0 ≤ obj ∧ obj < homes.length := Classical.not_not.1 hob
  have hk : obj.toNat < homes.length := by omega
  have b1 : decide (obj < 0) = false := by simp; omega
  have b2 : decide (obj ≥ homes.length) = false := by simp; omega
  have hq : queueR homes ns obj = queueL obj ns (ns.length + 1) (homes[obj.toNat], 0) := by
    unfold queueR; rw [if_pos hob, List.getD_eq_getElem?_getD, List.getElem?_eq_getElem hk]; rfl
  generalize queueR homes ns obj = qs at *
  refine awp_cut (fun s => s.slots 0 = .l eh 1 (homes.map I) ∧ s.slots 1 = .l ex 6 (ns.map encN) ∧ s.slots 2 = .int .i64 obj ∧ s.hp = h) ?_ ?_
  · simp only [go_sem, Nat.reduceAdd, Nat.reduceBEq, Nat.reduceEqDiff, Nat.reduceLeDiff, Nat.reduceLT, Nat.reduceSub, Int.reduceToNat]
  rintro s ⟨h0, h1, h2, hE⟩
  refine awp_cut (fun s => s.slots 0 = .l eh 1 (homes.map I) ∧ s.slots 1 = .l ex 6 (ns.map encN) ∧ s.slots 2 = .int .i64 obj ∧ s.slots 7 = .l true 0 [] ∧ s.hp = h) ?_ ?_
  · simp only [go_sem, h0, h1, h2, hE, Nat.reduceAdd, Nat.reduceBEq, Nat.reduceEqDiff, Nat.reduceLeDiff, Nat.reduceLT, Nat.reduceSub, Int.reduceToNat]
  clear h0 h1 h2 hE
  rintro s ⟨h0, h1, h2, h7, hE⟩
  refine awp_cut (fun s => s.slots 0 = .l eh 1 (homes.map I) ∧ s.slots 1 = .l ex 6 (ns.map encN) ∧ s.slots 2 = .int .i64 obj ∧ s.slots 7 = .l true 0 [] ∧ s.hp = h) ?_ ?_
  · simp only [go_sem, b1, b2, h0, h1, h2, h7, hE, Nat.reduceAdd, Nat.reduceBEq, Nat.reduceEqDiff, Nat.reduceLeDiff, Nat.reduceLT, Nat.reduceSub, Int.reduceToNat]
  clear h0 h1 h2 h7 hE
  rintro s ⟨h0, h1, h2, h7, hE⟩
  refine awp_cut (fun s => s.slots 0 = .l eh 1 (homes.map I) ∧ s.slots 1 = .l ex 6 (ns.map encN) ∧ s.slots 2 = .int .i64 obj ∧ s.slots 7 = .l true 0 [] ∧ ∃ a : Int × Int, a = (homes[obj.toNat], 0) ∧ (∃ La : Lab, s.slots 8 = .pt La 0 0 0 ∧ h.con La = .none ∧ s.hp.con La = .blk [.int .i64 a.1, .int .i64 a.2]) ∧ Keeps h s.hp) ?_ ?_
  · simp only [go_sem, b1, b2, I_cells, h0, h1, h2, h7, hE, Nat.reduceAdd, Nat.reduceBEq, Nat.reduceEqDiff, Nat.reduceLeDiff, Nat.reduceLT, Nat.reduceSub, Int.reduceToNat]
    refine ⟨hob.1, hk, (homes[obj.toNat], 0), rfl, ⟨_, rfl, h.ok _ (by simp), by simp [Hp.alloc, Hp.set, Con.keep]⟩, (Keeps.refl h).var _ _ _ _⟩
  clear h0 h1 h2 h7 hE
  rintro s ⟨h0, h1, h2, h7, a, ha, ⟨La, h8, hLa0, hLa⟩, hH⟩
  simp only [go_sem, h0, h1, h2, h7, h8, hLa, Nat.reduceAdd, Nat.reduceBEq, Nat.reduceEqDiff, Nat.reduceLeDiff, Nat.reduceLT, Nat.reduceSub, Int.reduceToNat]
  rw [awp_loop]
  refine ⟨fun s => ∃ (out : List (Int × Int)) (a : Int × Int), out.length ≤ ns.length + 1 ∧ qs = out ++ queueL obj ns (ns.length + 1 - out.length) a ∧ s.slots 0 = .l eh 1 (homes.map I) ∧ s.slots 1 = .l ex 6 (ns.map encN) ∧ s.slots 2 = .int .i64 obj ∧ OutS h s.hp (s.slots 7) out ∧ (∃ La : Lab, s.slots 8 = .pt La 0 0 0 ∧ h.con La = .none ∧ s.hp.con La = .blk [.int .i64 a.1, .int .i64 a.2]) ∧ Keeps h s.hp,
    fun s => ns.length + 2 - outLen s.hp (s.slots 7), ?_, ?_⟩
  · refine ⟨[], a, ?_⟩
    simp only [go_sem, h0, h1, h2, h7, h8, hLa, Nat.reduceAdd, Nat.reduceBEq, Nat.reduceEqDiff, Nat.reduceLeDiff, Nat.reduceLT, Nat.reduceSub, Int.reduceToNat]
    exact ⟨by rw [hq, ha]; simp, .inl ⟨rfl, rfl⟩, ⟨La, rfl, hLa0, hLa⟩, hH⟩
  · clear h0 h1 h2 h7 h8 hLa hH ha hLa0
    rintro s0 ⟨out, a, hol, hqo, h0, h1, h2, hO, ⟨La, h8, hLa0, hLa⟩, hH⟩
    have hlen0 := hO.len
    refine awp_cut (fun s => out.length ≤ ns.length ∧ s.slots 0 = .l eh 1 (homes.map I) ∧ s.slots 1 = .l ex 6 (ns.map encN) ∧ s.slots 2 = .int .i64 obj ∧ OutS h s.hp (s.slots 7) out ∧ (∃ La : Lab, s.slots 8 = .pt La 0 0 0 ∧ h.con La = .none ∧ s.hp.con La = .blk [.int .i64 a.1, .int .i64 a.2]) ∧ Keeps h s.hp) ?_ ?_
    · have fin : ¬ out.length ≤ ns.length → qs = out := fun hn => by
        have : ns.length + 1 - out.length = 0 := by omega
        rw [this] at hqo; simpa [queueL] using hqo
      cases b3 : decide ((out.length : Int) ≤ ns.length)
      · have hn : ¬ out.length ≤ ns.length := by simpa using b3
        have hf := fin hn
        rcases hO with ⟨e1, e2⟩ | ⟨Lo, e1, e2, e3⟩
        · subst e1; simp at hn
        · simp only [go_sem, b3, e1, e2, h0, h1, h2, h8, hLa, Nat.reduceAdd, Nat.reduceBEq, Nat.reduceEqDiff, Nat.reduceLeDiff, Nat.reduceLT, Nat.reduceSub, Int.reduceToNat]
          rw [hf]
          exact OutS.fin (.inr ⟨Lo, rfl, e2, e3⟩) hH
      · have hn : out.length ≤ ns.length := by simpa using b3
        rcases hO with ⟨e1, e2⟩ | ⟨Lo, e1, e2, e3⟩
        · subst e1
          have b3' : decide (((0 : Nat) : Int) ≤ ns.length) = true := b3
          simp only [go_sem, b3', e2, h0, h1, h2, h8, hLa, Nat.reduceAdd, Nat.reduceBEq, Nat.reduceEqDiff, Nat.reduceLeDiff, Nat.reduceLT, Nat.reduceSub, Int.reduceToNat]
          exact ⟨hn, .inl ⟨rfl, rfl⟩, ⟨La, rfl, hLa0, hLa⟩, hH⟩
        · simp only [go_sem, b3, e1, e2, h0, h1, h2, h8, hLa, Nat.reduceAdd, Nat.reduceBEq, Nat.reduceEqDiff, Nat.reduceLeDiff, Nat.reduceLT, Nat.reduceSub, Int.reduceToNat]
          exact ⟨hn, .inr ⟨Lo, rfl, e2, e3⟩, ⟨La, rfl, hLa0, hLa⟩, hH⟩
    clear h0 h1 h2 hO h8 hLa hLa0 hH
    rintro s ⟨hn, h0, h1, h2, hO, ⟨La, h8, hLa0, hLa⟩, hH⟩
    rw [awp_block]
    refine awp_cut (fun s => s.slots 0 = .l eh 1 (homes.map I) ∧ s.slots 1 = .l ex 6 (ns.map encN) ∧ s.slots 2 = .int .i64 obj ∧ (∃ Lo : Lab, s.slots 7 = .os Lo ∧ s.hp.con Lo = .arr 2 ((out ++ [a]).map pairA) ∧ h.con Lo = .none) ∧ (∃ La : Lab, s.slots 8 = .pt La 0 0 0 ∧ h.con La = .none ∧ s.hp.con La = .blk [.int .i64 a.1, .int .i64 a.2]) ∧ Keeps h s.hp) ?_ ?_
    · have hne := lab_ne (show (s.hp.con La).live by rw [hLa]; trivial)
      rcases hO with ⟨e1, e2⟩ | ⟨Lo, e1, e2, e3⟩
      · subst e1
        simp only [go_sem, e2, hne, h0, h1, h2, h8, hLa, Nat.reduceAdd, Nat.reduceBEq, Nat.reduceEqDiff, Nat.reduceLeDiff, Nat.reduceLT, Nat.reduceSub, Int.reduceToNat]
        exact ⟨by decide, by decide, ⟨_, rfl, by simp [Hp.alloc, pairA], hH.new 15 34⟩, ⟨La, rfl, hLa0, by simp only [hne, hLa, if_false]⟩, hH.alloc _ _ _⟩
      · have n1 : (La = Lo) = False := con_ne hLa e2 (by simp)
        simp only [go_sem, e1, e2, hne, n1, h0, h1, h2, h8, hLa, Nat.reduceAdd, Nat.reduceBEq, Nat.reduceEqDiff, Nat.reduceLeDiff, Nat.reduceLT, Nat.reduceSub, Int.reduceToNat]
        exact ⟨by decide, by omega, by omega, ⟨_, rfl, by simp [Hp.alloc, Hp.set, pairA], hH.new 15 34⟩, ⟨La, rfl, hLa0, by simp only [hne, hLa, n1, if_false]⟩, (hH.set e3 _).alloc _ _ _⟩
    clear h0 h1 h2 hO h8 hLa hLa0 hH
    rintro s ⟨h0, h1, h2, ⟨Lo, h7, hLo, hLo0⟩, ⟨La, h8, hLa0, hLa⟩, hH⟩
    have hsplit : ns.length + 1 - out.length = (ns.length - out.length) + 1 := by omega
    rw [hsplit] at hqo
    simp only [queueL] at hqo
    have hfinN : ns.find? (isNext obj a.1 a.2) = none → qs = out ++ [a] := fun hf => by rw [hf] at hqo; exact hqo
    have hfinS : ∀ x, ns.find? (isNext obj a.1 a.2) = some x → qs = (out ++ [a]) ++ queueL obj ns (ns.length + 1 - (out ++ [a]).length) (x.to, x.next) := fun x hf => by
      rw [hf] at hqo
      rw [hqo]; simp only [List.length_append, List.length_cons, List.length_nil, List.append_assoc, List.cons_append, List.nil_append]
      congr 3; omega
    simp only [go_sem, h0, h1, h2, h7, h8, hLa, hLo, Nat.reduceAdd, Nat.reduceBEq, Nat.reduceEqDiff, Nat.reduceLeDiff, Nat.reduceLT, Nat.reduceSub, Int.reduceToNat]
    rw [awp_loop]
    refine ⟨fun s => ∃ i : Nat, i ≤ ns.length ∧ s.slots 0 = .l eh 1 (homes.map I) ∧ s.slots 1 = .l ex 6 (ns.map encN) ∧ s.slots 2 = .int .i64 obj ∧ s.slots 7 = .os Lo ∧ s.slots 9 = .bool false ∧ s.slots 8 = .pt La 0 0 0 ∧ s.hp.con Lo = .arr 2 ((out ++ [a]).map pairA) ∧ s.hp.con La = .blk [.int .i64 a.1, .int .i64 a.2] ∧
      s.slots 35 = .l ex 6 (ns.map encN) ∧ s.slots 36 = .int .i64 ns.length ∧ s.slots 37 = .int .i64 i ∧ (ns.take i).find? (isNext obj a.1 a.2) = none ∧ Keeps h s.hp,
      fun s => match s.slots 37 with | .int _ i => (ns.length - i).toNat | _ => 0, ?_, ?_⟩
    · refine ⟨0, ?_⟩
      simp only [go_sem, h0, h1, h2, h7, h8, hLa, hLo, Nat.reduceAdd, Nat.reduceBEq, Nat.reduceEqDiff, Nat.reduceLeDiff, Nat.reduceLT, Nat.reduceSub, Int.reduceToNat]
      exact ⟨by omega, rfl, rfl, hH⟩
    · clear h0 h1 h2 h7 h8 hLa hLo hH
      rintro s ⟨i, hi, h0, h1, h2, h7, h9, h8, hLo, hLa, h35, h36, h37, hf, hH⟩
      have hne := lab_ne (show (s.hp.con La).live by rw [hLa]; trivial)
      have hneo := lab_ne (show (s.hp.con Lo).live by rw [hLo]; trivial)
      by_cases hlt : i < ns.length
      · have d0 : decide ((i : Int) < ns.length) = true := by simpa using hlt
        have hw : IntKind.i64.wrap ((i : Int) + 1) = ((i + 1 : Nat) : Int) := wrapS (by omega)
        have hdec : (((ns.length : Int) - ((i + 1 : Nat) : Int)).toNat < ((ns.length : Int) - (i : Int)).toNat) := by omega
        have hv := hH.var 15 11 (.blk [.int .i64 0, .int .i64 0, .int .i64 0, .int .i64 0, .int .i64 0, .int .i64 0]) (.blk [.int .i64 ns[i].kind, .int .i64 ns[i].obj, .int .i64 ns[i].node, .int .i64 ns[i].num, .int .i64 ns[i].to, .int .i64 ns[i].next])
        have hno : isNext obj a.1 a.2 ns[i] = false → (ns.take (i + 1)).find? (isNext obj a.1 a.2) = none := fun hf' => by
          rw [List.take_succ_eq_append_getElem hlt, List.find?_append, hf]; simp [hf']
        rcases two (ns[i].kind == 2) (ns[i].obj == obj) with c1 | ⟨c1, c2⟩ | ⟨c1, c2⟩
        · have hx := hno (by simp [isNext, c1])
          simp only [go_sem, d0, c1, hw, hne, hneo, h0, h1, h2, h7, h8, h9, hLa, hLo, h35, h36, h37, encN_cells, Nat.reduceAdd, Nat.reduceBEq, Nat.reduceEqDiff, Nat.reduceLeDiff, Nat.reduceLT, Nat.reduceSub, Int.reduceToNat]
          exact ⟨by omega, hlt, ⟨i + 1, hlt, rfl, hx, hv⟩, hdec⟩
        · have hx := hno (by simp [isNext, c1, c2])
          simp only [go_sem, d0, c1, c2, hw, hne, hneo, h0, h1, h2, h7, h8, h9, hLa, hLo, h35, h36, h37, encN_cells, Nat.reduceAdd, Nat.reduceBEq, Nat.reduceEqDiff, Nat.reduceLeDiff, Nat.reduceLT, Nat.reduceSub, Int.reduceToNat]
          exact ⟨by omega, hlt, ⟨i + 1, hlt, rfl, hx, hv⟩, hdec⟩
        · rcases two (ns[i].node == a.1) (ns[i].num == a.2) with c3 | ⟨c3, c4⟩ | ⟨c3, c4⟩
          · have hx := hno (by simp [isNext, c1, c2, c3])
            simp only [go_sem, d0, c1, c2, c3, hw, hne, hneo, h0, h1, h2, h7, h8, h9, hLa, hLo, h35, h36, h37, encN_cells, Nat.reduceAdd, Nat.reduceBEq, Nat.reduceEqDiff, Nat.reduceLeDiff, Nat.reduceLT, Nat.reduceSub, Int.reduceToNat]
            exact ⟨by omega, hlt, by omega, by decide, ⟨i + 1, hlt, rfl, hx, hv⟩, hdec⟩
          · have hx := hno (by simp [isNext, c1, c2, c3, c4])
            simp only [go_sem, d0, c1, c2, c3, c4, hw, hne, hneo, h0, h1, h2, h7, h8, h9, hLa, hLo, h35, h36, h37, encN_cells, Nat.reduceAdd, Nat.reduceBEq, Nat.reduceEqDiff, Nat.reduceLeDiff, Nat.reduceLT, Nat.reduceSub, Int.reduceToNat]
            exact ⟨by omega, hlt, by omega, by decide, by omega, by decide, ⟨i + 1, hlt, rfl, hx, hv⟩, hdec⟩
          · have hx := find_at _ ns i hlt hf (show isNext obj a.1 a.2 ns[i] = true by simp [isNext, c1, c2, c3, c4])
            simp only [go_sem, d0, c1, c2, c3, c4, hw, hne, hneo, h0, h1, h2, h7, h8, h9, hLa, hLo, h35, h36, h37, encN_cells, Nat.reduceAdd, Nat.reduceBEq, Nat.reduceEqDiff, Nat.reduceLeDiff, Nat.reduceLT, Nat.reduceSub, Int.reduceToNat]
            have nLo : (Lo = La) = False := con_ne hLo hLa (by simp)
            have hcL : ∀ c, ((((s.hp.alloc 15 11 (.blk [.int .i64 0, .int .i64 0, .int .i64 0, .int .i64 0, .int .i64 0, .int .i64 0])).set ⟨15, 11, s.hp.cnt 15 11⟩ (.blk [.int .i64 ns[i].kind, .int .i64 ns[i].obj, .int .i64 ns[i].node, .int .i64 ns[i].num, .int .i64 ns[i].to, .int .i64 ns[i].next])).set La c)).con Lo = .arr 2 ((out ++ [a]).map pairA) := fun c => by
              simp only [go_sem, hneo, nLo, hLo, Nat.reduceAdd, Nat.reduceBEq, Nat.reduceEqDiff, Nat.reduceLeDiff, Nat.reduceLT, Nat.reduceSub, Int.reduceToNat]
            refine ⟨by omega, hlt, by omega, by decide, by omega, by decide, ⟨out ++ [a], (ns[i].to, ns[i].next), by simp; omega, hfinS _ hx, .inr ⟨Lo, rfl, hcL _, hLo0⟩, ⟨La, rfl, hLa0, by simp only [if_true]⟩, hv.set hLa0 _⟩, ?_⟩
            rw [hlen0]
            simp only [outLen, hcL, List.length_map, List.length_append, List.length_cons, List.length_nil]
            omega
      · have d0 : decide ((i : Int) < ns.length) = false := by simpa using hlt
        have : i = ns.length := by omega
        subst this
        rw [List.take_length] at hf
        have hqq := hfinN hf
        simp only [go_sem, d0, hne, hneo, h0, h1, h2, h7, h8, h9, hLa, hLo, h35, h36, h37, Nat.reduceAdd, Nat.reduceBEq, Nat.reduceEqDiff, Nat.reduceLeDiff, Nat.reduceLT, Nat.reduceSub, Int.reduceToNat]
        rw [hqq]
        exact OutS.fin (.inr ⟨Lo, rfl, hLo, hLo0⟩) hH
end Go.Proofs.Ytmajndgdfmnchaa
/- GhostQueues. -/
namespace Go.Proofs.Ytmajndgdfmnchaa
open Go Go.T Go.Gh Go.Proofs
set_option linter.unusedSimpArgs false
def capsQ (homes : List Int) (ns : List Note) (obj : Int) : List AV := [.ip [.int .i64 (if 0 ≤ obj ∧ obj < homes.length then homes.getD obj.toNat 0 else 0)], .ip [.bool (decide (0 ≤ obj ∧ obj < homes.length))], .ip [.l false 6 (ns.map encN)], .ip [.int .i64 obj]]
theorem qsOf_eq (homes : List Int) (ns : List Note) (obj : Int) : qsOf (decide (0 ≤ obj ∧ obj < homes.length)) (if 0 ≤ obj ∧ obj < homes.length then homes.getD obj.toNat 0 else 0) obj ns = queueR homes ns obj := by
  unfold qsOf queueR
  by_cases h : 0 ≤ obj ∧ obj < homes.length
  · simp [h]
  · simp [h]
def QV (homes : List Int) (ns : List Note) (obj : Int) : AV := .fn (.func 41) (capsQ homes ns obj)
theorem QV_eq (homes : List Int) (ns : List Note) (obj : Int) : QV homes ns obj = .fn (.func 41) (capsQ homes ns obj) := by simp [QV]
end Go.Proofs.Ytmajndgdfmnchaa
