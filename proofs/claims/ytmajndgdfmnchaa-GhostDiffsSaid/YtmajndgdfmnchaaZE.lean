/- The reference's can. -/
import Derived.Test.YtmajndgdfmnchaaZC
namespace Go.Proofs.Ytmajndgdfmnchaa
open Go Go.T Go.Gh Go.Proofs
@[go_sem] theorem res39 : Try.f39.results = #[.tmp 6] := by kernel_rfl
def T39 : Nat → List Tg := fun id => if id = 14 then [.plain, .plain, .plain, .plain, .plain, .plain, .plain, .plain, .plain, .plain, .plain, .plain, .plain, .plain, .plain, .plain, .pure] else []
set_option linter.unusedSimpArgs false
theorem find_at {α : Type} (p : α → Bool) (l : List α) (i : Nat) (hlt : i < l.length) (hc : (l.take i).find? p = none) (hp : p l[i] = true) : l.find? p = some l[i] := by
  have h1 : l.find? p = (l.take (i + 1) ++ l.drop (i + 1)).find? p := by rw [List.take_append_drop]
  rw [h1, List.find?_append, List.take_succ_eq_append_getElem hlt, List.find?_append, hc]
  simp [hp]
theorem two (a b : Bool) : a = false ∨ (a = true ∧ b = false) ∨ (a = true ∧ b = true) := by revert a b; decide
set_option maxRecDepth 10000 in
set_option maxHeartbeats 8000000 in
theorem f39_spec (home : Int) (ns : List Note) (ex : Bool) (n : Note) (hlen : ns.length < 2 ^ 61) :
    PureF Try.prog 39 [.int .i64 home, .l ex 6 (ns.map encN), encN n] (.bool (canB home ns n)) := by
  refine PureF.of_awp mixed T39 (fn := Try.f39) (by kernel_rfl) rfl (by kernel_rfl) (by show 3 ≤ _; decide) (by simp [AV.lf]) (fun h => ?_)
  refine awp_cut (fun s => s.slots 0 = .int .i64 home ∧ s.slots 1 = .l ex 6 (ns.map encN) ∧ (∃ L, s.slots 5 = .pt L 0 0 0 ∧ h.con L = .none ∧ s.hp.con L = .blk (encN n).cells) ∧ s.slots 6 = .bool false ∧ Keeps h s.hp) ?_ ?_
  · simp only [go_sem, encN, T39, Nat.reduceAdd, Nat.reduceBEq, Nat.reduceEqDiff, Nat.reduceLeDiff, Nat.reduceLT, Nat.reduceSub]
    exact ⟨⟨_, rfl, h.ok _ (by simp), by simp⟩, (Keeps.refl h).alloc _ _ _⟩
  rintro s ⟨h0, h1, ⟨L, h5, hL0, hL⟩, h6, hH⟩
  refine awp_cut (fun s => s.slots 0 = .int .i64 home ∧ s.slots 1 = .l ex 6 (ns.map encN) ∧ (∃ L, s.slots 5 = .pt L 0 0 0 ∧ h.con L = .none ∧ s.hp.con L = .blk (encN n).cells) ∧ ¬ (n.kind ≠ 2 ∧ (n.to ≠ 0 ∨ n.next ≠ 0)) ∧ Keeps h s.hp) ?_ ?_
  · simp only [go_sem, h0, h1, h5, hL, h6, T39, encN_cells, Nat.reduceAdd, Nat.reduceBEq, Nat.reduceEqDiff, Nat.reduceLeDiff, Nat.reduceLT, Nat.reduceSub]
    refine ⟨fun c1 => ⟨fun c2 => ⟨fun c3 => ⟨?_, hH⟩, fun c3 => ⟨⟨L, rfl, hL0, hL⟩, ?_, hH⟩⟩, fun c2 => ⟨?_, hH⟩⟩, fun c1 => ⟨⟨L, rfl, hL0, hL⟩, ?_, hH⟩⟩
    all_goals simp_all [canB]
  clear h0 h1 h5 hL0 hL h6 hH
  rintro s ⟨h0, h1, ⟨L, h5, hL0, hL⟩, hk, hH⟩
  refine awp_cut (fun s => s.slots 0 = .int .i64 home ∧ s.slots 1 = .l ex 6 (ns.map encN) ∧ (∃ L, s.slots 5 = .pt L 0 0 0 ∧ h.con L = .none ∧ s.hp.con L = .blk (encN n).cells) ∧
    s.slots 7 = .int .i64 home ∧ s.slots 8 = .int .i64 0 ∧ s.slots 9 = .bool true ∧ Keeps h s.hp) ?_ ?_
  · simp only [go_sem, h0, h1, h5, hL, T39, encN_cells, Nat.reduceAdd, Nat.reduceBEq, Nat.reduceEqDiff, Nat.reduceLeDiff, Nat.reduceLT, Nat.reduceSub]
    exact ⟨⟨L, rfl, hL0, hL⟩, hH⟩
  clear h0 h1 h5 hL0 hL hH
  rintro s ⟨h0, h1, ⟨L, h5, hL0, hL⟩, h7, h8, h9, hH⟩
  refine awp_cut (fun s => s.slots 0 = .int .i64 home ∧ s.slots 1 = .l ex 6 (ns.map encN) ∧ (∃ L, s.slots 5 = .pt L 0 0 0 ∧ h.con L = .none ∧ s.hp.con L = .blk (encN n).cells) ∧
    s.slots 7 = .int .i64 (atOf home n.obj ns).1 ∧ s.slots 8 = .int .i64 (atOf home n.obj ns).2.1 ∧ s.slots 9 = .bool (atOf home n.obj ns).2.2 ∧ Keeps h s.hp) ?_ ?_
  · simp only [go_sem, h0, h1, h5, hL, h7, h8, h9, T39, encN_cells, Nat.reduceAdd, Nat.reduceBEq, Nat.reduceEqDiff, Nat.reduceLeDiff, Nat.reduceLT, Nat.reduceSub]
    rw [awp_loop]
    refine ⟨fun s => ∃ i : Nat, i ≤ ns.length ∧ s.slots 0 = .int .i64 home ∧ s.slots 1 = .l ex 6 (ns.map encN) ∧ (∃ L, s.slots 5 = .pt L 0 0 0 ∧ h.con L = .none ∧ s.hp.con L = .blk (encN n).cells) ∧
      s.slots 7 = .int .i64 (atOf home n.obj (ns.take i)).1 ∧ s.slots 8 = .int .i64 (atOf home n.obj (ns.take i)).2.1 ∧ s.slots 9 = .bool (atOf home n.obj (ns.take i)).2.2 ∧
      s.slots 30 = .l ex 6 (ns.map encN) ∧ s.slots 31 = .int .i64 ns.length ∧ s.slots 32 = .int .i64 i ∧ Keeps h s.hp,
      fun s => match s.slots 32 with | .int _ i => (ns.length - i).toNat | _ => 0, ?_, ?_⟩
    · refine ⟨0, ?_⟩
      simp only [go_sem, h0, h1, h5, hL, h7, h8, h9, Nat.reduceAdd, Nat.reduceBEq, Nat.reduceEqDiff, Nat.reduceLeDiff, Nat.reduceLT, Nat.reduceSub]
      exact ⟨by omega, ⟨L, rfl, hL0, by rw [hL]⟩, by simp [atOf], by simp [atOf], by simp [atOf], by simp, hH⟩
    · clear h0 h1 h5 hL0 hL h7 h8 h9 hH
      rintro s ⟨i, hi, h0, h1, ⟨L, h5, hL0, hL⟩, h7, h8, h9, h30, h31, h32, hH⟩
      have hne := lab_ne (show (s.hp.con L).live by rw [hL]; trivial)
      by_cases hlt : i < ns.length
      · have d0 : decide ((i : Int) < ns.length) = true := by simpa using hlt
        have hst := atOf_step home n.obj ns i hlt
        have hw : IntKind.i64.wrap ((i : Int) + 1) = ((i + 1 : Nat) : Int) := wrapS (by omega)
        have hdec : (((ns.length : Int) - ((i + 1 : Nat) : Int)).toNat < ((ns.length : Int) - (i : Int)).toNat) := by omega
        have hv := hH.var 39 11 (.blk [.int .i64 0, .int .i64 0, .int .i64 0, .int .i64 0, .int .i64 0, .int .i64 0]) (.blk [.int .i64 ns[i].kind, .int .i64 ns[i].obj, .int .i64 ns[i].node, .int .i64 ns[i].num, .int .i64 ns[i].to, .int .i64 ns[i].next])
        cases b1 : (ns[i].obj == n.obj) <;> cases b2 : (ns[i].kind == 3) <;> cases b3 : (ns[i].kind == 4)
        all_goals
          simp only [go_sem, d0, b1, b2, b3, hw, hne, h0, h1, h5, hL, h7, h8, h9, h30, h31, h32, T39, encN_cells, Nat.reduceAdd, Nat.reduceBEq, Nat.reduceEqDiff, Nat.reduceLeDiff, Nat.reduceLT, Nat.reduceSub]
          refine ⟨by omega, hlt, ⟨i + 1, hlt, ⟨L, rfl, hL0, by simp only [hne, hL, encN_cells, if_false]⟩, ?_, ?_, ?_, rfl, hv⟩, hdec⟩
          all_goals
            rw [hst]; simp only [beq_iff_eq, beq_eq_false_iff_ne] at b1 b2 b3; simp [atStep, b1, b2, b3] <;> omega
      · have d0 : decide ((i : Int) < ns.length) = false := by simpa using hlt
        have : i = ns.length := by omega
        subst this
        simp only [go_sem, d0, hne, h0, h1, h5, hL, h7, h8, h9, h30, h31, h32, T39, encN_cells, Nat.reduceAdd, Nat.reduceBEq, Nat.reduceEqDiff, Nat.reduceLeDiff, Nat.reduceLT, Nat.reduceSub]
        exact ⟨⟨L, rfl, hL0, by rw [hL, encN_cells]⟩, by simp, by simp, by simp, hH⟩
  clear h0 h1 h5 hL0 hL h7 h8 h9 hH
  rintro s ⟨h0, h1, ⟨L, h5, hL0, hL⟩, h7, h8, h9, hH⟩
  by_cases k1 : n.kind = 1
  · have hcan : canB home ns n = (decide (0 ≤ n.node) && decide (n.node < 32) && n.num == (madeN ns n.obj n.node : Int) + 1) := by unfold canB; rw [if_neg hk, if_pos k1]
    have b1 : (n.kind == 1) = true := by simpa using k1
    have hm := madeN_le ns n.obj n.node
    have hw : IntKind.i64.wrap ((madeN ns n.obj n.node : Int) + 1) = (madeN ns n.obj n.node : Int) + 1 := by rw [wrapS (by omega)]; omega
    rcases two (decide (n.node ≥ 0)) (decide (n.node < 32)) with b2 | ⟨b2, b3⟩ | ⟨b2, b3⟩
    · simp only [go_sem, b1, b2, h0, h1, h5, hL, h7, h8, h9, T39, encN_cells, Nat.reduceAdd, Nat.reduceBEq, Nat.reduceEqDiff, Nat.reduceLeDiff, Nat.reduceLT, Nat.reduceSub]
      refine ⟨?_, hH⟩
      rw [hcan]; simp only [ge_iff_le] at b2; simp [b2]
    · simp only [go_sem, b1, b2, b3, h0, h1, h5, hL, h7, h8, h9, T39, encN_cells, Nat.reduceAdd, Nat.reduceBEq, Nat.reduceEqDiff, Nat.reduceLeDiff, Nat.reduceLT, Nat.reduceSub]
      refine ⟨?_, hH⟩
      rw [hcan]; simp [b3]
    · simp only [go_sem, b1, b2, b3, h0, h1, h5, hL, h7, h8, h9, T39, encN_cells, Nat.reduceAdd, Nat.reduceBEq, Nat.reduceEqDiff, Nat.reduceLeDiff, Nat.reduceLT, Nat.reduceSub]
      refine PureX.of (f71_spec ns ex n.obj n.node hlen) ?_
      simp only [go_sem, b1, b2, b3, hw, h0, h1, h5, hL, h7, h8, h9, T39, encN_cells, Nat.reduceAdd, Nat.reduceBEq, Nat.reduceEqDiff, Nat.reduceLeDiff, Nat.reduceLT, Nat.reduceSub]
      refine ⟨?_, hH⟩
      rw [hcan]; simp only [ge_iff_le] at b2; rw [b2, b3]; simp
  have d1 : (n.kind == 1) = false := by simpa using k1
  by_cases k2 : n.kind = 2
  · have hcan : canB home ns n = (!ns.any (clash n) && n.next != 0 && thereB home ns n.obj n.node n.num && thereB home ns n.obj n.to n.next) := by unfold canB; rw [if_neg hk, if_neg k1, if_pos k2]
    have b1 : (n.kind == 2) = true := by simpa using k2
    simp only [go_sem, d1, b1, h0, h1, h5, hL, h7, h8, h9, T39, encN_cells, Nat.reduceAdd, Nat.reduceBEq, Nat.reduceEqDiff, Nat.reduceLeDiff, Nat.reduceLT, Nat.reduceSub]
    rw [awp_loop]
    refine ⟨fun s => ∃ i : Nat, i ≤ ns.length ∧ s.slots 0 = .int .i64 home ∧ s.slots 1 = .l ex 6 (ns.map encN) ∧ (∃ L, s.slots 5 = .pt L 0 0 0 ∧ h.con L = .none ∧ s.hp.con L = .blk (encN n).cells) ∧
      (ns.take i).any (clash n) = false ∧ s.slots 87 = .l ex 6 (ns.map encN) ∧ s.slots 88 = .int .i64 ns.length ∧ s.slots 89 = .int .i64 i ∧ Keeps h s.hp,
      fun s => match s.slots 89 with | .int _ i => (ns.length - i).toNat | _ => 0, ?_, ?_⟩
    · refine ⟨0, ?_⟩
      simp only [go_sem, h0, h1, h5, hL, Nat.reduceAdd, Nat.reduceBEq, Nat.reduceEqDiff, Nat.reduceLeDiff, Nat.reduceLT, Nat.reduceSub]
      exact ⟨by omega, ⟨L, rfl, hL0, hL⟩, rfl, rfl, hH⟩
    · clear h0 h1 h5 hL0 hL h7 h8 h9 hH
      rintro s ⟨i, hi, h0, h1, ⟨L, h5, hL0, hL⟩, hc, h87, h88, h89, hH⟩
      have hne := lab_ne (show (s.hp.con L).live by rw [hL]; trivial)
      by_cases hlt : i < ns.length
      · have d0 : decide ((i : Int) < ns.length) = true := by simpa using hlt
        have hw : IntKind.i64.wrap ((i : Int) + 1) = ((i + 1 : Nat) : Int) := wrapS (by omega)
        have hdec : (((ns.length : Int) - ((i + 1 : Nat) : Int)).toNat < ((ns.length : Int) - (i : Int)).toNat) := by omega
        have hv := hH.var 39 13 (.blk [.int .i64 0, .int .i64 0, .int .i64 0, .int .i64 0, .int .i64 0, .int .i64 0]) (.blk [.int .i64 ns[i].kind, .int .i64 ns[i].obj, .int .i64 ns[i].node, .int .i64 ns[i].num, .int .i64 ns[i].to, .int .i64 ns[i].next])
        have hst : (ns.take (i + 1)).any (clash n) = clash n ns[i] := by
          rw [List.take_succ_eq_append_getElem hlt, List.any_append, hc]; simp
        have no : clash n ns[i] = true → canB home ns n = false := fun hcl => by
          have : ns.any (clash n) = true := List.any_eq_true.2 ⟨ns[i], List.getElem_mem hlt, hcl⟩
          simp [hcan, this]
        rcases two (ns[i].kind == 2) (ns[i].obj == n.obj) with b1 | ⟨b1, b2⟩ | ⟨b1, b2⟩
        · have hcl : clash n ns[i] = false := by simp [clash, b1]
          rw [hcl] at hst
          simp only [go_sem, d0, b1, hw, hne, h0, h1, h5, hL, h87, h88, h89, T39, encN_cells, Nat.reduceAdd, Nat.reduceBEq, Nat.reduceEqDiff, Nat.reduceLeDiff, Nat.reduceLT, Nat.reduceSub]
          exact ⟨by omega, hlt, ⟨i + 1, hlt, ⟨L, rfl, hL0, by simp only [hne, hL, encN_cells, if_false]⟩, hst, rfl, hv⟩, hdec⟩
        · have hcl : clash n ns[i] = false := by simp [clash, b1, b2]
          rw [hcl] at hst
          simp only [go_sem, d0, b1, b2, hw, hne, h0, h1, h5, hL, h87, h88, h89, T39, encN_cells, Nat.reduceAdd, Nat.reduceBEq, Nat.reduceEqDiff, Nat.reduceLeDiff, Nat.reduceLT, Nat.reduceSub]
          exact ⟨by omega, hlt, ⟨i + 1, hlt, ⟨L, rfl, hL0, by simp only [hne, hL, encN_cells, if_false]⟩, hst, rfl, hv⟩, hdec⟩
        · rcases two (ns[i].node == n.node) (ns[i].num == n.num) with b3 | ⟨b3, b4⟩ | ⟨b3, b4⟩
          · rcases two (ns[i].to == n.to) (ns[i].next == n.next) with b5 | ⟨b5, b6⟩ | ⟨b5, b6⟩
            · have hcl : clash n ns[i] = false := by simp [clash, b1, b2, b3, b5]
              rw [hcl] at hst
              simp only [go_sem, d0, b1, b2, b3, b5, hw, hne, h0, h1, h5, hL, h87, h88, h89, T39, encN_cells, Nat.reduceAdd, Nat.reduceBEq, Nat.reduceEqDiff, Nat.reduceLeDiff, Nat.reduceLT, Nat.reduceSub]
              exact ⟨by omega, hlt, ⟨i + 1, hlt, ⟨L, rfl, hL0, by simp only [hne, hL, encN_cells, if_false]⟩, hst, rfl, hv⟩, hdec⟩
            · have hcl : clash n ns[i] = false := by simp [clash, b1, b2, b3, b5, b6]
              rw [hcl] at hst
              simp only [go_sem, d0, b1, b2, b3, b5, b6, hw, hne, h0, h1, h5, hL, h87, h88, h89, T39, encN_cells, Nat.reduceAdd, Nat.reduceBEq, Nat.reduceEqDiff, Nat.reduceLeDiff, Nat.reduceLT, Nat.reduceSub]
              exact ⟨by omega, hlt, ⟨i + 1, hlt, ⟨L, rfl, hL0, by simp only [hne, hL, encN_cells, if_false]⟩, hst, rfl, hv⟩, hdec⟩
            · have hcl : clash n ns[i] = true := by simp [clash, b1, b2, b3, b5, b6]
              simp only [go_sem, no hcl, d0, b1, b2, b3, b5, b6, hw, hne, h0, h1, h5, hL, h87, h88, h89, T39, encN_cells, Nat.reduceAdd, Nat.reduceBEq, Nat.reduceEqDiff, Nat.reduceLeDiff, Nat.reduceLT, Nat.reduceSub]
              exact ⟨by omega, hlt, hv⟩
          · rcases two (ns[i].to == n.to) (ns[i].next == n.next) with b5 | ⟨b5, b6⟩ | ⟨b5, b6⟩
            · have hcl : clash n ns[i] = false := by simp [clash, b1, b2, b3, b4, b5]
              rw [hcl] at hst
              simp only [go_sem, d0, b1, b2, b3, b4, b5, hw, hne, h0, h1, h5, hL, h87, h88, h89, T39, encN_cells, Nat.reduceAdd, Nat.reduceBEq, Nat.reduceEqDiff, Nat.reduceLeDiff, Nat.reduceLT, Nat.reduceSub]
              exact ⟨by omega, hlt, ⟨i + 1, hlt, ⟨L, rfl, hL0, by simp only [hne, hL, encN_cells, if_false]⟩, hst, rfl, hv⟩, hdec⟩
            · have hcl : clash n ns[i] = false := by simp [clash, b1, b2, b3, b4, b5, b6]
              rw [hcl] at hst
              simp only [go_sem, d0, b1, b2, b3, b4, b5, b6, hw, hne, h0, h1, h5, hL, h87, h88, h89, T39, encN_cells, Nat.reduceAdd, Nat.reduceBEq, Nat.reduceEqDiff, Nat.reduceLeDiff, Nat.reduceLT, Nat.reduceSub]
              exact ⟨by omega, hlt, ⟨i + 1, hlt, ⟨L, rfl, hL0, by simp only [hne, hL, encN_cells, if_false]⟩, hst, rfl, hv⟩, hdec⟩
            · have hcl : clash n ns[i] = true := by simp [clash, b1, b2, b3, b4, b5, b6]
              simp only [go_sem, no hcl, d0, b1, b2, b3, b4, b5, b6, hw, hne, h0, h1, h5, hL, h87, h88, h89, T39, encN_cells, Nat.reduceAdd, Nat.reduceBEq, Nat.reduceEqDiff, Nat.reduceLeDiff, Nat.reduceLT, Nat.reduceSub]
              exact ⟨by omega, hlt, hv⟩
          · have hcl : clash n ns[i] = true := by simp [clash, b1, b2, b3, b4]
            simp only [go_sem, no hcl, d0, b1, b2, b3, b4, hw, hne, h0, h1, h5, hL, h87, h88, h89, T39, encN_cells, Nat.reduceAdd, Nat.reduceBEq, Nat.reduceEqDiff, Nat.reduceLeDiff, Nat.reduceLT, Nat.reduceSub]
            exact ⟨by omega, hlt, hv⟩
      · have d0 : decide ((i : Int) < ns.length) = false := by simpa using hlt
        have : i = ns.length := by omega
        subst this
        rw [List.take_length] at hc
        simp only [go_sem, d0, hne, h0, h1, h5, hL, h87, h88, h89, T39, encN_cells, Nat.reduceAdd, Nat.reduceBEq, Nat.reduceEqDiff, Nat.reduceLeDiff, Nat.reduceLT, Nat.reduceSub]
        refine ⟨fun c1 => CallX.pure (f72_spec home ns ex n.obj n.node n.num hlen) ?_, fun c1 => ?_⟩
        · cases c2 : thereB home ns n.obj n.node n.num
          · simp only [go_sem, c2, hne, h0, h1, h5, hL, h87, h88, h89, T39, encN_cells, Nat.reduceAdd, Nat.reduceBEq, Nat.reduceEqDiff, Nat.reduceLeDiff, Nat.reduceLT, Nat.reduceSub]
            refine ⟨?_, hH⟩
            rw [hcan, c2]; simp
          · simp only [go_sem, c2, hne, h0, h1, h5, hL, h87, h88, h89, T39, encN_cells, Nat.reduceAdd, Nat.reduceBEq, Nat.reduceEqDiff, Nat.reduceLeDiff, Nat.reduceLT, Nat.reduceSub]
            refine CallX.pure (f72_spec home ns ex n.obj n.to n.next hlen) ?_
            simp only [go_sem, c2, hne, h0, h1, h5, hL, h87, h88, h89, T39, encN_cells, Nat.reduceAdd, Nat.reduceBEq, Nat.reduceEqDiff, Nat.reduceLeDiff, Nat.reduceLT, Nat.reduceSub]
            refine ⟨?_, hH⟩
            rw [hcan, c1, c2, hc]; simp
        · refine ⟨?_, hH⟩
          rw [hcan, c1]; simp
  have d2 : (n.kind == 2) = false := by simpa using k2
  by_cases k3 : n.kind = 3
  · have hcan : canB home ns n = (!(atOf home n.obj ns).2.2 && n.node == (atOf home n.obj ns).1 && n.num == (atOf home n.obj ns).2.1) := by unfold canB; rw [if_neg hk, if_neg k1, if_neg k2, if_pos k3]
    have b1 : (n.kind == 3) = true := by simpa using k3
    simp only [go_sem, d1, d2, b1, h0, h1, h5, hL, h7, h8, h9, T39, encN_cells, Nat.reduceAdd, Nat.reduceBEq, Nat.reduceEqDiff, Nat.reduceLeDiff, Nat.reduceLT, Nat.reduceSub]
    refine ⟨fun c1 => ⟨fun c2 => ⟨?_, hH⟩, fun c2 => ⟨?_, hH⟩⟩, fun c1 => ⟨?_, hH⟩⟩
    · rw [hcan, c1, c2]; simp
    · rw [hcan, c2]; simp
    · rw [hcan, c1]; simp
  have d3 : (n.kind == 3) = false := by simpa using k3
  by_cases k4 : n.kind = 4
  · have hcan0 : ns.find? (isNext n.obj (atOf home n.obj ns).1 (atOf home n.obj ns).2.1) = none → canB home ns n = false := fun hf => by
      unfold canB; rw [if_neg hk, if_neg k1, if_neg k2, if_neg k3, if_pos k4, hf]
    have hcan1 : ∀ x, ns.find? (isNext n.obj (atOf home n.obj ns).1 (atOf home n.obj ns).2.1) = some x → canB home ns n = ((atOf home n.obj ns).2.2 && x.to == n.node && x.next == n.num) := fun x hf => by
      unfold canB; rw [if_neg hk, if_neg k1, if_neg k2, if_neg k3, if_pos k4, hf]
    have b1 : (n.kind == 4) = true := by simpa using k4
    rw [awp_seq]
    simp only [go_sem, d1, d2, d3, b1, h0, h1, h5, hL, h7, h8, h9, T39, encN_cells, Nat.reduceAdd, Nat.reduceBEq, Nat.reduceEqDiff, Nat.reduceLeDiff, Nat.reduceLT, Nat.reduceSub]
    rw [awp_loop]
    refine ⟨fun s => ∃ i : Nat, i ≤ ns.length ∧ s.slots 0 = .int .i64 home ∧ s.slots 1 = .l ex 6 (ns.map encN) ∧ (∃ L, s.slots 5 = .pt L 0 0 0 ∧ h.con L = .none ∧ s.hp.con L = .blk (encN n).cells) ∧
      s.slots 7 = .int .i64 (atOf home n.obj ns).1 ∧ s.slots 8 = .int .i64 (atOf home n.obj ns).2.1 ∧ s.slots 9 = .bool (atOf home n.obj ns).2.2 ∧
      (ns.take i).find? (isNext n.obj (atOf home n.obj ns).1 (atOf home n.obj ns).2.1) = none ∧ s.slots 175 = .l ex 6 (ns.map encN) ∧ s.slots 176 = .int .i64 ns.length ∧ s.slots 177 = .int .i64 i ∧ Keeps h s.hp,
      fun s => match s.slots 177 with | .int _ i => (ns.length - i).toNat | _ => 0, ?_, ?_⟩
    · refine ⟨0, ?_⟩
      simp only [go_sem, h0, h1, h5, hL, h7, h8, h9, Nat.reduceAdd, Nat.reduceBEq, Nat.reduceEqDiff, Nat.reduceLeDiff, Nat.reduceLT, Nat.reduceSub]
      exact ⟨by omega, ⟨L, rfl, hL0, hL⟩, rfl, rfl, hH⟩
    · clear h0 h1 h5 hL0 hL h7 h8 h9 hH
      rintro s ⟨i, hi, h0, h1, ⟨L, h5, hL0, hL⟩, h7, h8, h9, hc, h87, h88, h89, hH⟩
      have hne := lab_ne (show (s.hp.con L).live by rw [hL]; trivial)
      by_cases hlt : i < ns.length
      · have d0 : decide ((i : Int) < ns.length) = true := by simpa using hlt
        have hw : IntKind.i64.wrap ((i : Int) + 1) = ((i + 1 : Nat) : Int) := wrapS (by omega)
        have hdec : (((ns.length : Int) - ((i + 1 : Nat) : Int)).toNat < ((ns.length : Int) - (i : Int)).toNat) := by omega
        have hv := hH.var 39 15 (.blk [.int .i64 0, .int .i64 0, .int .i64 0, .int .i64 0, .int .i64 0, .int .i64 0]) (.blk [.int .i64 ns[i].kind, .int .i64 ns[i].obj, .int .i64 ns[i].node, .int .i64 ns[i].num, .int .i64 ns[i].to, .int .i64 ns[i].next])
        have hst : isNext n.obj (atOf home n.obj ns).1 (atOf home n.obj ns).2.1 ns[i] = false → (ns.take (i + 1)).find? (isNext n.obj (atOf home n.obj ns).1 (atOf home n.obj ns).2.1) = none := fun hf => by
          rw [List.take_succ_eq_append_getElem hlt, List.find?_append, hc]; simp [hf]
        rcases two (ns[i].kind == 2) (ns[i].obj == n.obj) with b2 | ⟨b2, b3⟩ | ⟨b2, b3⟩
        · have hcl := hst (by simp [isNext, b2])
          simp only [go_sem, d0, b2, hw, hne, h0, h1, h5, hL, h7, h8, h9, h87, h88, h89, T39, encN_cells, Nat.reduceAdd, Nat.reduceBEq, Nat.reduceEqDiff, Nat.reduceLeDiff, Nat.reduceLT, Nat.reduceSub]
          exact ⟨by omega, hlt, ⟨i + 1, hlt, ⟨L, rfl, hL0, by simp only [hne, hL, encN_cells, if_false]⟩, hcl, rfl, hv⟩, hdec⟩
        · have hcl := hst (by simp [isNext, b2, b3])
          simp only [go_sem, d0, b2, b3, hw, hne, h0, h1, h5, hL, h7, h8, h9, h87, h88, h89, T39, encN_cells, Nat.reduceAdd, Nat.reduceBEq, Nat.reduceEqDiff, Nat.reduceLeDiff, Nat.reduceLT, Nat.reduceSub]
          exact ⟨by omega, hlt, ⟨i + 1, hlt, ⟨L, rfl, hL0, by simp only [hne, hL, encN_cells, if_false]⟩, hcl, rfl, hv⟩, hdec⟩
        · rcases two (ns[i].node == (atOf home n.obj ns).1) (ns[i].num == (atOf home n.obj ns).2.1) with b4 | ⟨b4, b5⟩ | ⟨b4, b5⟩
          · have hcl := hst (by simp [isNext, b2, b3, b4])
            simp only [go_sem, d0, b2, b3, b4, hw, hne, h0, h1, h5, hL, h7, h8, h9, h87, h88, h89, T39, encN_cells, Nat.reduceAdd, Nat.reduceBEq, Nat.reduceEqDiff, Nat.reduceLeDiff, Nat.reduceLT, Nat.reduceSub]
            exact ⟨by omega, hlt, ⟨i + 1, hlt, ⟨L, rfl, hL0, by simp only [hne, hL, encN_cells, if_false]⟩, hcl, rfl, hv⟩, hdec⟩
          · have hcl := hst (by simp [isNext, b2, b3, b4, b5])
            simp only [go_sem, d0, b2, b3, b4, b5, hw, hne, h0, h1, h5, hL, h7, h8, h9, h87, h88, h89, T39, encN_cells, Nat.reduceAdd, Nat.reduceBEq, Nat.reduceEqDiff, Nat.reduceLeDiff, Nat.reduceLT, Nat.reduceSub]
            exact ⟨by omega, hlt, ⟨i + 1, hlt, ⟨L, rfl, hL0, by simp only [hne, hL, encN_cells, if_false]⟩, hcl, rfl, hv⟩, hdec⟩
          · have hcan := hcan1 _ (find_at _ ns i hlt hc (by simp [isNext, b2, b3, b4, b5]))
            rcases two (atOf home n.obj ns).2.2 (ns[i].to == n.node) with b6 | ⟨b6, b7⟩ | ⟨b6, b7⟩
            · simp only [b6, Bool.false_and] at hcan
              rw [b6] at h9
              simp only [go_sem, hcan, d0, b2, b3, b4, b5, hw, hne, h0, h1, h5, hL, h7, h8, h9, h87, h88, h89, T39, encN_cells, Nat.reduceAdd, Nat.reduceBEq, Nat.reduceEqDiff, Nat.reduceLeDiff, Nat.reduceLT, Nat.reduceSub]
              exact ⟨by omega, hlt, hv⟩
            · simp only [b6, b7, Bool.true_and, Bool.false_and] at hcan
              rw [b6] at h9
              simp only [go_sem, hcan, d0, b2, b3, b4, b5, b7, hw, hne, h0, h1, h5, hL, h7, h8, h9, h87, h88, h89, T39, encN_cells, Nat.reduceAdd, Nat.reduceBEq, Nat.reduceEqDiff, Nat.reduceLeDiff, Nat.reduceLT, Nat.reduceSub]
              exact ⟨by omega, hlt, hv⟩
            · simp only [b6, b7, Bool.true_and] at hcan
              rw [b6] at h9
              simp only [go_sem, hcan, d0, b2, b3, b4, b5, b7, hw, hne, h0, h1, h5, hL, h7, h8, h9, h87, h88, h89, T39, encN_cells, Nat.reduceAdd, Nat.reduceBEq, Nat.reduceEqDiff, Nat.reduceLeDiff, Nat.reduceLT, Nat.reduceSub]
              exact ⟨by omega, hlt, hv⟩
      · have d0 : decide ((i : Int) < ns.length) = false := by simpa using hlt
        have : i = ns.length := by omega
        subst this
        rw [List.take_length] at hc
        have hcan := hcan0 hc
        simp only [go_sem, hcan, d0, hne, h0, h1, h5, hL, h7, h8, h9, h87, h88, h89, T39, encN_cells, Nat.reduceAdd, Nat.reduceBEq, Nat.reduceEqDiff, Nat.reduceLeDiff, Nat.reduceLT, Nat.reduceSub]
        exact hH
  have d4 : (n.kind == 4) = false := by simpa using k4
  have hcan : canB home ns n = false := by unfold canB; rw [if_neg hk, if_neg k1, if_neg k2, if_neg k3, if_neg k4]
  simp only [go_sem, hcan, d1, d2, d3, d4, h0, h1, h5, hL, h7, h8, h9, T39, encN_cells, Nat.reduceAdd, Nat.reduceBEq, Nat.reduceEqDiff, Nat.reduceLeDiff, Nat.reduceLT, Nat.reduceSub]
  exact hH
end Go.Proofs.Ytmajndgdfmnchaa
