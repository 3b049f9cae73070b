/- ghost's note. -/
import Derived.Test.YtmajndgdfmnchaaZG
import Derived.Test.YtmajndgdfmnchaaT3
namespace Go.Proofs.Ytmajndgdfmnchaa
open Go Go.T Go.Gh Go.Proofs
@[go_sem] theorem res38 : Try.f38.results = #[.tmp 4] := by kernel_rfl

structure ObAt (h : Hp) (L L1 L2 : Lab) (o : Ob) : Prop where
  con : h.con L = .blk (objC o.made L1 L2 o.node o.num o.freed o.home)
  m1 : h.con L1 = .mp (mapE o.next 0) o.next.length
  m2 : h.con L2 = .mp (mapE o.heirs 0) o.heirs.length
  len : o.made.length = 32

def T38 : Nat → List Tg := fun id => if id = 1 then [.plain, .plain, .plain, .plain, .plain, .plain, .avoid [5], .plain, .avoid [5], .plain, .plain, .plain, .mine]
  else if id = 15 then [.plain, .plain, .plain, .blk, .blk, .plain, .plain, .plain, .blk, .blk, .blk, .blk] else []
set_option linter.unusedSimpArgs false
section
variable (made : List Int) (L1 L2 : Lab) (a b : Int) (f : Bool) (hh : Int) (hm : made.length = 32)
include hm
theorem obj_len : (objC made L1 L2 a b f hh).length = 38 := by simp [objC, hm]
theorem obj_32 : (objC made L1 L2 a b f hh).getD 32 .undef = .mr L1 := by simp [objC, hm]
theorem obj_33 : (objC made L1 L2 a b f hh).getD 33 .undef = .mr L2 := by simp [objC, hm]
theorem obj_36 : (objC made L1 L2 a b f hh).getD 36 .undef = .bool f := by simp [objC, hm]
theorem obj_34 : ((objC made L1 L2 a b f hh).drop 34).take 2 = [.int .i64 a, .int .i64 b] := by
  unfold objC
  rw [List.drop_append, List.drop_eq_nil_of_le (by simp [hm])]
  simp [hm]
theorem obj_s36 (x : Bool) : (objC made L1 L2 a b f hh).set 36 (.bool x) = objC made L1 L2 a b x hh := by
  unfold objC
  rw [List.set_append_right _ _ (by simp [hm])]
  simp [hm]
theorem obj_s34 (x y : Int) : ((objC made L1 L2 a b f hh).set 34 (.int .i64 x)).set 35 (.int .i64 y) = objC made L1 L2 x y f hh := by
  unfold objC
  rw [List.set_append_right _ _ (by simp [hm]), List.set_append_right _ _ (by simp [hm])]
  simp [hm]
theorem obj_m (m : Nat) (h : m < 32) : (objC made L1 L2 a b f hh).getD m .undef = .int .i64 (made.getD m 0) := by
  have : m < made.length := by omega
  simp [objC, List.getElem?_append_left, this]
theorem obj_sm (m : Nat) (h : m < 32) (x : Int) : (objC made L1 L2 a b f hh).set m (.int .i64 x) = objC (made.set m x) L1 L2 a b f hh := by
  unfold objC
  rw [List.set_append_left _ _ (by simp; omega)]
  simp
end

def cutH (h : Hp) (L L1 L2 : Lab) (o : Ob) (n : Note) (s : St) : Prop := s.slots 0 = .pt L 0 0 0 ∧ s.slots 4 = .bool false ∧ (∃ B R U, s.slots 3 = .pt B 0 0 0 ∧ s.slots 5 = .pt R 0 0 0 ∧ s.slots 6 = .pt U 0 0 0 ∧ s.hp.con B = .blk (encN n).cells ∧ s.hp.con R = .blk [.int .i64 n.node, .int .i64 n.num] ∧ s.hp.con U = .blk [.int .i64 n.to, .int .i64 n.next]) ∧ ObAt s.hp L L1 L2 o ∧ Fr [L, L1, L2] h s.hp

set_option maxRecDepth 10000 in
set_option maxHeartbeats 8000000 in
theorem f38_spec (L L1 L2 : Lab) (hL12 : L1 ≠ L2) (h : Hp) (o : Ob) (hob : ObAt h L L1 L2 o) (hbd : ∀ m ∈ o.made, 0 ≤ m ∧ m < 2 ^ 61) (n : Note) (K : AV → Hp → Prop)
    (hno : noteF o n = none → ∀ h', Fr [L, L1, L2] h h' → K (.bool false) h')
    (hyes : ∀ o', noteF o n = some o' → ∀ h', ObAt h' L L1 L2 o' → Fr [L, L1, L2] h h' → K (.bool true) h') :
    CallK Try.prog 38 [.pt L 0 0 0, encN n] h K := by
  refine CallK.of_awpH mixed T38 (fn := Try.f38) (by kernel_rfl) rfl (by kernel_rfl) (by show 2 ≤ _; decide) ?_
  have hl : (h.con L).live := by rw [hob.con]; trivial
  have hl1 : (h.con L1).live := by rw [hob.m1]; trivial
  have hl2 : (h.con L2).live := by rw [hob.m2]; trivial
  refine awp_cut (fun s => s.slots 0 = .pt L 0 0 0 ∧ s.slots 4 = .bool false ∧ (∃ B, B.f = 38 ∧ B.s = 3 ∧ s.slots 3 = .pt B 0 0 0 ∧ s.hp.con B = .blk (encN n).cells) ∧ ObAt s.hp L L1 L2 o ∧ Fr [L, L1, L2] h s.hp) ?_ ?_
  · simp only [go_sem, encN, T38, Nat.reduceAdd, Nat.reduceBEq, Nat.reduceEqDiff, Nat.reduceLeDiff, Nat.reduceLT, Nat.reduceSub]
    refine ⟨⟨_, rfl, rfl, rfl, by simp⟩, ⟨?_, ?_, ?_, hob.len⟩, (Fr.refl _ h).alloc _ _ _⟩
    · simp only [go_sem, lab_ne hl, hob.con]
    · simp only [go_sem, lab_ne hl1, hob.m1]
    · simp only [go_sem, lab_ne hl2, hob.m2]
  rintro s ⟨h0, h4, ⟨B, hBf, hBs, h3, hB⟩, hO, hF⟩
  refine awp_cut (cutH h L L1 L2 o n) ?_ ?_
  · have hne := lab_ne (show (s.hp.con B).live by rw [hB]; trivial)
    have hneL := lab_ne (show (s.hp.con L).live by rw [hO.con]; trivial)
    have hneL1 := lab_ne (show (s.hp.con L1).live by rw [hO.m1]; trivial)
    have hneL2 := lab_ne (show (s.hp.con L2).live by rw [hO.m2]; trivial)
    simp only [go_sem, h0, h3, h4, hB, hBf, hBs, hne, encN_cells, T38, Nat.reduceAdd, Nat.reduceBEq, Nat.reduceEqDiff, Nat.reduceLeDiff, Nat.reduceLT, Nat.reduceSub]
    -- END1
    refine ⟨by simp, by simp, ?_⟩
    have hF1 := hF.alloc 38 5 (.blk [.int .i64 0, .int .i64 0])
    have hF2 := hF1.alloc 38 6 (.blk [.int .i64 0, .int .i64 0])
    refine ⟨by simp only [go_sem, h0, Nat.reduceAdd, Nat.reduceBEq, Nat.reduceEqDiff, Nat.reduceLeDiff, Nat.reduceLT, Nat.reduceSub], by simp only [go_sem, h4, Nat.reduceAdd, Nat.reduceBEq, Nat.reduceEqDiff, Nat.reduceLeDiff, Nat.reduceLT, Nat.reduceSub], ⟨B, ⟨38, 5, s.hp.cnt 38 5⟩, ⟨38, 6, s.hp.cnt 38 6⟩, by simp only [go_sem, h3, Nat.reduceAdd, Nat.reduceBEq, Nat.reduceEqDiff, Nat.reduceLeDiff, Nat.reduceLT, Nat.reduceSub], by simp only [go_sem, Nat.reduceAdd, Nat.reduceBEq, Nat.reduceEqDiff, Nat.reduceLeDiff, Nat.reduceLT, Nat.reduceSub], by simp only [go_sem, Nat.reduceAdd, Nat.reduceBEq, Nat.reduceEqDiff, Nat.reduceLeDiff, Nat.reduceLT, Nat.reduceSub], by simp only [go_sem, hne, hB, Nat.reduceAdd, Nat.reduceBEq, Nat.reduceEqDiff, Nat.reduceLeDiff, Nat.reduceLT, Nat.reduceSub], by simp only [go_sem, Nat.reduceAdd, Nat.reduceBEq, Nat.reduceEqDiff, Nat.reduceLeDiff, Nat.reduceLT, Nat.reduceSub], by simp only [go_sem, Nat.reduceAdd, Nat.reduceBEq, Nat.reduceEqDiff, Nat.reduceLeDiff, Nat.reduceLT, Nat.reduceSub]⟩, ⟨by simp only [go_sem, hneL, hO.con, Nat.reduceAdd, Nat.reduceBEq, Nat.reduceEqDiff, Nat.reduceLeDiff, Nat.reduceLT, Nat.reduceSub], by simp only [go_sem, hneL1, hO.m1, Nat.reduceAdd, Nat.reduceBEq, Nat.reduceEqDiff, Nat.reduceLeDiff, Nat.reduceLT, Nat.reduceSub], by simp only [go_sem, hneL2, hO.m2, Nat.reduceAdd, Nat.reduceBEq, Nat.reduceEqDiff, Nat.reduceLeDiff, Nat.reduceLT, Nat.reduceSub], hO.len⟩, ?_⟩
    exact (hF2.set (hF.new 38 5) _).set (hF1.new 38 6) _
  clear h0 h3 h4 hB hO hF
  rintro s ⟨h0, h4, ⟨B, R, U, h3, h5, h6, hB, hR, hU⟩, hO, hF⟩
  refine awp_cut (fun s => cutH h L L1 L2 o n s ∧ ¬ (n.kind ≠ 2 ∧ (n.to ≠ 0 ∨ n.next ≠ 0))) ?_ ?_
  · have ol := obj_len o.made L1 L2 o.node o.num o.freed o.home hO.len
    rcases two (n.kind != 2) ((n.to == 0) && (n.next == 0)) with b1 | ⟨b1, b2⟩ | ⟨b1, b2⟩
    · simp only [go_sem, b1, h0, h3, h4, h5, h6, hB, hR, hU, encN_cells, T38, Nat.reduceAdd, Nat.reduceBEq, Nat.reduceEqDiff, Nat.reduceLeDiff, Nat.reduceLT, Nat.reduceSub]
      exact ⟨⟨by simp only [go_sem, h0, Nat.reduceAdd, Nat.reduceBEq, Nat.reduceEqDiff, Nat.reduceLeDiff, Nat.reduceLT, Nat.reduceSub], by simp only [go_sem, h4, Nat.reduceAdd, Nat.reduceBEq, Nat.reduceEqDiff, Nat.reduceLeDiff, Nat.reduceLT, Nat.reduceSub], ⟨B, R, U, by simp only [go_sem, h3, Nat.reduceAdd, Nat.reduceBEq, Nat.reduceEqDiff, Nat.reduceLeDiff, Nat.reduceLT, Nat.reduceSub], by simp only [go_sem, h5, Nat.reduceAdd, Nat.reduceBEq, Nat.reduceEqDiff, Nat.reduceLeDiff, Nat.reduceLT, Nat.reduceSub], by simp only [go_sem, h6, Nat.reduceAdd, Nat.reduceBEq, Nat.reduceEqDiff, Nat.reduceLeDiff, Nat.reduceLT, Nat.reduceSub], hB, hR, hU⟩, hO, hF⟩, fun hc => by simp at b1; exact hc.1 b1⟩
    · have hnf : noteF o n = none := by
        unfold noteF; rw [if_pos]
        simp only [bne_iff_ne, ne_eq, Bool.and_eq_false_iff, beq_eq_false_iff_ne] at b1 b2
        exact ⟨b1, b2⟩
      simp only [go_sem, b1, b2, h0, h3, h4, h5, h6, hB, hR, hU, encN_cells, T38, Nat.reduceAdd, Nat.reduceBEq, Nat.reduceEqDiff, Nat.reduceLeDiff, Nat.reduceLT, Nat.reduceSub]
      exact hno hnf _ hF
    · simp only [go_sem, b1, b2, h0, h3, h4, h5, h6, hB, hR, hU, encN_cells, T38, Nat.reduceAdd, Nat.reduceBEq, Nat.reduceEqDiff, Nat.reduceLeDiff, Nat.reduceLT, Nat.reduceSub]
      exact ⟨⟨by simp only [go_sem, h0, Nat.reduceAdd, Nat.reduceBEq, Nat.reduceEqDiff, Nat.reduceLeDiff, Nat.reduceLT, Nat.reduceSub], by simp only [go_sem, h4, Nat.reduceAdd, Nat.reduceBEq, Nat.reduceEqDiff, Nat.reduceLeDiff, Nat.reduceLT, Nat.reduceSub], ⟨B, R, U, by simp only [go_sem, h3, Nat.reduceAdd, Nat.reduceBEq, Nat.reduceEqDiff, Nat.reduceLeDiff, Nat.reduceLT, Nat.reduceSub], by simp only [go_sem, h5, Nat.reduceAdd, Nat.reduceBEq, Nat.reduceEqDiff, Nat.reduceLeDiff, Nat.reduceLT, Nat.reduceSub], by simp only [go_sem, h6, Nat.reduceAdd, Nat.reduceBEq, Nat.reduceEqDiff, Nat.reduceLeDiff, Nat.reduceLT, Nat.reduceSub], hB, hR, hU⟩, hO, hF⟩, fun hc => by simp at b2; omega⟩
  clear h0 h3 h4 h5 h6 hB hR hU hO hF
  rintro s ⟨⟨h0, h4, ⟨B, R, U, h3, h5, h6, hB, hR, hU⟩, hO, hF⟩, hc0⟩
  have ol := obj_len o.made L1 L2 o.node o.num o.freed o.home hO.len
  have o32 := obj_32 o.made L1 L2 o.node o.num o.freed o.home hO.len
  have o33 := obj_33 o.made L1 L2 o.node o.num o.freed o.home hO.len
  have o34 := obj_34 o.made L1 L2 o.node o.num o.freed o.home hO.len
  have o36 := obj_36 o.made L1 L2 o.node o.num o.freed o.home hO.len
  have hLc := hO.con
  have hM1 := hO.m1
  have hM2 := hO.m2
  have hneB := lab_ne (show (s.hp.con B).live by rw [hB]; trivial)
  have hneR := lab_ne (show (s.hp.con R).live by rw [hR]; trivial)
  have hneU := lab_ne (show (s.hp.con U).live by rw [hU]; trivial)
  have hneL := lab_ne (show (s.hp.con L).live by rw [hLc]; trivial)
  have hneL1 := lab_ne (show (s.hp.con L1).live by rw [hM1]; trivial)
  have hneL2 := lab_ne (show (s.hp.con L2).live by rw [hM2]; trivial)
  have inL : L ∈ [L, L1, L2] ∨ h.con L = .none := .inl (by simp)
  have inL1 : L1 ∈ [L, L1, L2] ∨ h.con L1 = .none := .inl (by simp)
  have inL2 : L2 ∈ [L, L1, L2] ∨ h.con L2 = .none := .inl (by simp)
  have n1 : (L1 = L) = False := ne_con hLc hM1 (by simp)
  have n2 : (L2 = L) = False := ne_con hLc hM2 (by simp)
  have n3 : (L2 = L1) = False := eq_false (fun e => hL12 e.symm)
  have n4 : (L1 = L2) = False := eq_false hL12
  have n5 : (L = L1) = False := con_ne hLc hM1 (by simp)
  have n6 : (L = L2) = False := con_ne hLc hM2 (by simp)
  by_cases k1 : n.kind = 1
  · have b1 : (n.kind == 1) = true := by simpa using k1
    have hnf : (n.node < 0 ∨ 32 ≤ n.node ∨ n.num ≠ o.made.getD n.node.toNat 0 + 1) → noteF o n = none := fun hc => by unfold noteF; rw [if_neg hc0, if_pos k1, if_pos hc]
    have hnf2 : ¬ (n.node < 0 ∨ 32 ≤ n.node ∨ n.num ≠ o.made.getD n.node.toNat 0 + 1) → noteF o n = some { o with made := o.made.set n.node.toNat n.num } := fun hc => by unfold noteF; rw [if_neg hc0, if_pos k1, if_neg hc]
    cases b2 : decide (n.node < 0)
    · cases b3 : decide (n.node ≥ 32)
      · have p0 : 0 ≤ n.node := by simpa using b2
        have p1 : n.node < 32 := by simpa using b3
        have p2 : n.node.toNat < 32 := by omega
        have om := obj_m o.made L1 L2 o.node o.num o.freed o.home hO.len _ p2
        have osm := obj_sm o.made L1 L2 o.node o.num o.freed o.home hO.len _ p2 n.num
        have hmem : o.made.getD n.node.toNat 0 ∈ o.made := by
          have : n.node.toNat < o.made.length := by rw [hO.len]; omega
          rw [List.getD_eq_getElem?_getD, List.getElem?_eq_getElem this]; exact List.getElem_mem this
        have hbd := hbd _ hmem
        have hw : IntKind.i64.wrap (o.made.getD n.node.toNat 0 + 1) = o.made.getD n.node.toNat 0 + 1 := IntWalk.i64_in _ (by omega)
        cases b4 : (n.num != o.made.getD n.node.toNat 0 + 1)
        · simp only [go_sem, b1, b2, b3, b4, om, hw, h0, h3, h4, h5, h6, hB, hR, hU, encN_cells, T38, ol, o32, o33, o34, o36, hLc, hM1, hM2, Nat.reduceAdd, Nat.reduceBEq, Nat.reduceEqDiff, Nat.reduceLeDiff, Nat.reduceLT, Nat.reduceSub]
          refine ⟨p0, p1, by omega, p0, p1, by omega, ?_⟩
          rw [osm]
          have hnum : n.num = o.made.getD n.node.toNat 0 + 1 := by simpa using b4
          refine hyes _ (hnf2 (by omega)) _ ⟨by simp only [go_sem, hLc, Nat.reduceAdd, Nat.reduceBEq, Nat.reduceEqDiff, Nat.reduceLeDiff, Nat.reduceLT, Nat.reduceSub], by simp only [go_sem, n1, hM1, Nat.reduceAdd, Nat.reduceBEq, Nat.reduceEqDiff, Nat.reduceLeDiff, Nat.reduceLT, Nat.reduceSub], by simp only [go_sem, n2, hM2, Nat.reduceAdd, Nat.reduceBEq, Nat.reduceEqDiff, Nat.reduceLeDiff, Nat.reduceLT, Nat.reduceSub], by simp [hO.len]⟩ (hF.set inL _)
        · have hf := hnf (.inr (.inr (by simpa using b4)))
          simp only [go_sem, b1, b2, b3, b4, om, hw, h0, h3, h4, h5, h6, hB, hR, hU, encN_cells, T38, ol, o32, o33, o34, o36, hLc, hM1, hM2, Nat.reduceAdd, Nat.reduceBEq, Nat.reduceEqDiff, Nat.reduceLeDiff, Nat.reduceLT, Nat.reduceSub]
          exact ⟨p0, p1, by omega, hno hf _ hF⟩
      · have hf := hnf (.inr (.inl (by simpa using b3)))
        simp only [go_sem, b1, b2, b3, h0, h3, h4, h5, h6, hB, hR, hU, encN_cells, T38, ol, o32, o33, o34, o36, hLc, hM1, hM2, Nat.reduceAdd, Nat.reduceBEq, Nat.reduceEqDiff, Nat.reduceLeDiff, Nat.reduceLT, Nat.reduceSub]
        exact hno hf _ hF
    · have hf := hnf (.inl (by simpa using b2))
      simp only [go_sem, b1, b2, h0, h3, h4, h5, h6, hB, hR, hU, encN_cells, T38, ol, o32, o33, o34, o36, hLc, hM1, hM2, Nat.reduceAdd, Nat.reduceBEq, Nat.reduceEqDiff, Nat.reduceLeDiff, Nat.reduceLT, Nat.reduceSub]
      exact hno hf _ hF
  have d1 : (n.kind == 1) = false := by simpa using k1
  by_cases k2 : n.kind = 2
  · have b1 : (n.kind == 2) = true := by simpa using k2
    have hbad : (hasB o.made o.home n.node n.num = false ∨ hasB o.made o.home n.to n.next = false ∨ (n.next == 0) = true ∨ (lookF o.next (n.node, n.num)).isSome = true ∨ (lookF o.heirs (n.to, n.next)).isSome = true) → noteF o n = none := fun hc => by
      unfold noteF; rw [if_neg hc0, if_neg k1, if_pos k2, if_pos]
      simp only [Bool.or_eq_true, Bool.not_eq_true']
      rcases hc with hc | hc | hc | hc | hc <;> simp [hc]
    simp only [go_sem, d1, b1, h0, h3, h4, h5, h6, hB, hR, hU, encN_cells, T38, ol, o32, o33, o34, o36, hLc, hM1, hM2, Nat.reduceAdd, Nat.reduceBEq, Nat.reduceEqDiff, Nat.reduceLeDiff, Nat.reduceLT, Nat.reduceSub]
    refine LookX.kv ?_
    cases hl1 : lookF o.next (n.node, n.num) <;> simp only [go_sem, hl1, d1, b1, hneB, hneR, hneU, hneL, hneL1, hneL2, n1, n2, n3, n4, n5, n6, h0, h3, h4, h5, h6, hB, hR, hU, encN_cells, T38, ol, o32, o33, o34, o36, hLc, hM1, hM2, Nat.reduceAdd, Nat.reduceBEq, Nat.reduceEqDiff, Nat.reduceLeDiff, Nat.reduceLT, Nat.reduceSub] <;> refine LookX.kv ?_ <;> cases hl2 : lookF o.heirs (n.to, n.next) <;> simp only [go_sem, hl2, d1, b1, hneB, hneR, hneU, hneL, hneL1, hneL2, n1, n2, n3, n4, n5, n6, h0, h3, h4, h5, h6, hB, hR, hU, encN_cells, T38, ol, o32, o33, o34, o36, hLc, hM1, hM2, Nat.reduceAdd, Nat.reduceBEq, Nat.reduceEqDiff, Nat.reduceLeDiff, Nat.reduceLT, Nat.reduceSub]
    all_goals refine CallX.at (f70_spec o.made L1 L2 o.node o.num o.freed o.home n.node n.num L _ (by simp only [go_sem, hneB, hneR, hneU, hneL, hneL1, hneL2, n1, n2, n3, n4, n5, n6, h0, h3, h4, h5, h6, hB, hR, hU, encN_cells, T38, ol, o32, o33, o34, o36, hLc, hM1, hM2, Nat.reduceAdd, Nat.reduceBEq, Nat.reduceEqDiff, Nat.reduceLeDiff, Nat.reduceLT, Nat.reduceSub]) hO.len) ?_
    all_goals cases b3 : hasB o.made o.home n.node n.num
    all_goals simp only [go_sem, b3, d1, b1, hneB, hneR, hneU, hneL, hneL1, hneL2, n1, n2, n3, n4, n5, n6, h0, h3, h4, h5, h6, hB, hR, hU, encN_cells, T38, ol, o32, o33, o34, o36, hLc, hM1, hM2, Nat.reduceAdd, Nat.reduceBEq, Nat.reduceEqDiff, Nat.reduceLeDiff, Nat.reduceLT, Nat.reduceSub]
    all_goals first | exact hno (hbad (.inl b3)) _ (by repeat (first | exact hF | refine Fr.set ?_ inL _ | refine Fr.set ?_ inL1 _ | refine Fr.set ?_ inL2 _ | refine Fr.var ?_ _ _ _ _ | refine Fr.alloc ?_ _ _ _)) | skip
    all_goals refine CallX.at (f70_spec o.made L1 L2 o.node o.num o.freed o.home n.to n.next L _ (by simp only [go_sem, hneB, hneR, hneU, hneL, hneL1, hneL2, n1, n2, n3, n4, n5, n6, h0, h3, h4, h5, h6, hB, hR, hU, encN_cells, T38, ol, o32, o33, o34, o36, hLc, hM1, hM2, Nat.reduceAdd, Nat.reduceBEq, Nat.reduceEqDiff, Nat.reduceLeDiff, Nat.reduceLT, Nat.reduceSub]) hO.len) ?_
    all_goals cases b4 : hasB o.made o.home n.to n.next <;> cases b5 : (n.next == 0)
    all_goals simp only [go_sem, b3, b4, b5, d1, b1, hneB, hneR, hneU, hneL, hneL1, hneL2, n1, n2, n3, n4, n5, n6, h0, h3, h4, h5, h6, hB, hR, hU, encN_cells, T38, ol, o32, o33, o34, o36, hLc, hM1, hM2, Nat.reduceAdd, Nat.reduceBEq, Nat.reduceEqDiff, Nat.reduceLeDiff, Nat.reduceLT, Nat.reduceSub]
    all_goals first | exact hno (hbad (by first | exact .inr (.inl b4) | exact .inr (.inr (.inl b5)) | exact .inr (.inr (.inr (.inl (by rw [hl1]; rfl)))) | exact .inr (.inr (.inr (.inr (by rw [hl2]; rfl)))))) _ (by repeat (first | exact hF | refine Fr.set ?_ inL _ | refine Fr.set ?_ inL1 _ | refine Fr.set ?_ inL2 _ | refine Fr.var ?_ _ _ _ _ | refine Fr.alloc ?_ _ _ _)) | skip
    refine EntryX.kv hl1 ?_
    simp only [go_sem, b3, b4, b5, d1, b1, hneB, hneR, hneU, hneL, hneL1, hneL2, n1, n2, n3, n4, n5, n6, h0, h3, h4, h5, h6, hB, hR, hU, encN_cells, T38, ol, o32, o33, o34, o36, hLc, hM1, hM2, Nat.reduceAdd, Nat.reduceBEq, Nat.reduceEqDiff, Nat.reduceLeDiff, Nat.reduceLT, Nat.reduceSub]
    refine StoreX.kv rfl ?_
    simp only [go_sem, b3, b4, b5, d1, b1, hneB, hneR, hneU, hneL, hneL1, hneL2, n1, n2, n3, n4, n5, n6, h0, h3, h4, h5, h6, hB, hR, hU, encN_cells, T38, ol, o32, o33, o34, o36, hLc, hM1, hM2, Nat.reduceAdd, Nat.reduceBEq, Nat.reduceEqDiff, Nat.reduceLeDiff, Nat.reduceLT, Nat.reduceSub]
    refine EntryX.kv hl2 ?_
    simp only [go_sem, b3, b4, b5, d1, b1, hneB, hneR, hneU, hneL, hneL1, hneL2, n1, n2, n3, n4, n5, n6, h0, h3, h4, h5, h6, hB, hR, hU, encN_cells, T38, ol, o32, o33, o34, o36, hLc, hM1, hM2, Nat.reduceAdd, Nat.reduceBEq, Nat.reduceEqDiff, Nat.reduceLeDiff, Nat.reduceLT, Nat.reduceSub]
    refine StoreX.kv rfl ?_
    simp only [go_sem, b3, b4, b5, d1, b1, hneB, hneR, hneU, hneL, hneL1, hneL2, n1, n2, n3, n4, n5, n6, h0, h3, h4, h5, h6, hB, hR, hU, encN_cells, T38, ol, o32, o33, o34, o36, hLc, hM1, hM2, Nat.reduceAdd, Nat.reduceBEq, Nat.reduceEqDiff, Nat.reduceLeDiff, Nat.reduceLT, Nat.reduceSub]
    have hyn : noteF o n = some { o with next := o.next ++ [((n.node, n.num), (n.to, n.next))], heirs := o.heirs ++ [((n.to, n.next), (n.node, n.num))] } := by
      unfold noteF; rw [if_neg hc0, if_neg k1, if_pos k2, if_neg]
      simp [b3, b4, b5, hl1, hl2]
    refine hyes _ hyn _ ⟨?_, ?_, ?_, hO.len⟩ (by repeat (first | exact hF | refine Fr.set ?_ inL _ | refine Fr.set ?_ inL1 _ | refine Fr.set ?_ inL2 _ | refine Fr.var ?_ _ _ _ _ | refine Fr.alloc ?_ _ _ _))
    · simp only [go_sem, hneB, hneR, hneU, hneL, hneL1, hneL2, n1, n2, n3, n4, n5, n6, h0, h3, h4, h5, h6, hB, hR, hU, encN_cells, T38, ol, o32, o33, o34, o36, hLc, hM1, hM2, Nat.reduceAdd, Nat.reduceBEq, Nat.reduceEqDiff, Nat.reduceLeDiff, Nat.reduceLT, Nat.reduceSub]
    · simp only [go_sem, hneB, hneR, hneU, hneL, hneL1, hneL2, n1, n2, n3, n4, n5, n6, h0, h3, h4, h5, h6, hB, hR, hU, encN_cells, T38, ol, o32, o33, o34, o36, hLc, hM1, hM2, Nat.reduceAdd, Nat.reduceBEq, Nat.reduceEqDiff, Nat.reduceLeDiff, Nat.reduceLT, Nat.reduceSub]; simp
    · simp only [go_sem, hneB, hneR, hneU, hneL, hneL1, hneL2, n1, n2, n3, n4, n5, n6, h0, h3, h4, h5, h6, hB, hR, hU, encN_cells, T38, ol, o32, o33, o34, o36, hLc, hM1, hM2, Nat.reduceAdd, Nat.reduceBEq, Nat.reduceEqDiff, Nat.reduceLeDiff, Nat.reduceLT, Nat.reduceSub]; simp
  have d2 : (n.kind == 2) = false := by simpa using k2
  by_cases k3 : n.kind = 3
  · have b1 : (n.kind == 3) = true := by simpa using k3
    have hbad : (n.node ≠ o.node ∨ n.num ≠ o.num ∨ o.freed = true) → noteF o n = none := fun hc => by
      unfold noteF; rw [if_neg hc0, if_neg k1, if_neg k2, if_pos k3, if_pos hc]
    have s36 := obj_s36 o.made L1 L2 o.node o.num o.freed o.home hO.len true
    rcases two (!((n.node == o.node) && (n.num == o.num))) o.freed with b2 | ⟨b2, b3⟩ | ⟨b2, b3⟩
    · cases b3 : o.freed <;> have o36b := o36.trans (congrArg AV.bool b3)
      · simp only [go_sem, d1, d2, b1, b2, o36b, hneB, hneR, hneU, hneL, hneL1, hneL2, n1, n2, n3, n4, n5, n6, h0, h3, h4, h5, h6, hB, hR, hU, encN_cells, T38, ol, o32, o33, o34, hLc, hM1, hM2, Nat.reduceAdd, Nat.reduceBEq, Nat.reduceEqDiff, Nat.reduceLeDiff, Nat.reduceLT, Nat.reduceSub]
        have hyn : noteF o n = some { o with freed := true } := by
          unfold noteF; rw [if_neg hc0, if_neg k1, if_neg k2, if_pos k3, if_neg]
          simp at b2
          rw [b3]; simp [b2]
        rw [s36]
        refine hyes _ hyn _ ⟨?_, ?_, ?_, hO.len⟩ (by repeat (first | exact hF | refine Fr.set ?_ inL _ | refine Fr.set ?_ inL1 _ | refine Fr.set ?_ inL2 _ | refine Fr.var ?_ _ _ _ _ | refine Fr.alloc ?_ _ _ _))
        · simp only [go_sem, hneB, hneR, hneU, hneL, hneL1, hneL2, n1, n2, n3, n4, n5, n6, h0, h3, h4, h5, h6, hB, hR, hU, encN_cells, T38, ol, o32, o33, o34, hLc, hM1, hM2, Nat.reduceAdd, Nat.reduceBEq, Nat.reduceEqDiff, Nat.reduceLeDiff, Nat.reduceLT, Nat.reduceSub]
        · simp only [go_sem, hneB, hneR, hneU, hneL, hneL1, hneL2, n1, n2, n3, n4, n5, n6, h0, h3, h4, h5, h6, hB, hR, hU, encN_cells, T38, ol, o32, o33, o34, hLc, hM1, hM2, Nat.reduceAdd, Nat.reduceBEq, Nat.reduceEqDiff, Nat.reduceLeDiff, Nat.reduceLT, Nat.reduceSub]
        · simp only [go_sem, hneB, hneR, hneU, hneL, hneL1, hneL2, n1, n2, n3, n4, n5, n6, h0, h3, h4, h5, h6, hB, hR, hU, encN_cells, T38, ol, o32, o33, o34, hLc, hM1, hM2, Nat.reduceAdd, Nat.reduceBEq, Nat.reduceEqDiff, Nat.reduceLeDiff, Nat.reduceLT, Nat.reduceSub]
      · simp only [go_sem, d1, d2, b1, b2, o36b, hneB, hneR, hneU, hneL, hneL1, hneL2, n1, n2, n3, n4, n5, n6, h0, h3, h4, h5, h6, hB, hR, hU, encN_cells, T38, ol, o32, o33, o34, hLc, hM1, hM2, Nat.reduceAdd, Nat.reduceBEq, Nat.reduceEqDiff, Nat.reduceLeDiff, Nat.reduceLT, Nat.reduceSub]
        exact hno (hbad (.inr (.inr b3))) _ hF
    all_goals
      have o36b := o36.trans (congrArg AV.bool b3)
      simp only [go_sem, d1, d2, b1, b2, o36b, hneB, hneR, hneU, hneL, hneL1, hneL2, n1, n2, n3, n4, n5, n6, h0, h3, h4, h5, h6, hB, hR, hU, encN_cells, T38, ol, o32, o33, o34, hLc, hM1, hM2, Nat.reduceAdd, Nat.reduceBEq, Nat.reduceEqDiff, Nat.reduceLeDiff, Nat.reduceLT, Nat.reduceSub]
      refine hno (hbad ?_) _ hF
      simp at b2
      rcases b2 with b2 | b2
      · exact .inl b2
      · exact .inr (.inl b2)
  have d3 : (n.kind == 3) = false := by simpa using k3
  by_cases k4 : n.kind = 4
  · have b1 : (n.kind == 4) = true := by simpa using k4
    have hbad : ¬ (lookF o.next (o.node, o.num) = some (n.node, n.num) ∧ o.freed = true) → noteF o n = none := fun hc => by
      unfold noteF; rw [if_neg hc0, if_neg k1, if_neg k2, if_neg k3, if_pos k4, if_neg hc]
    have s34 := obj_s34 o.made L1 L2 o.node o.num o.freed o.home hO.len n.node n.num
    have s36 := obj_s36 o.made L1 L2 n.node n.num o.freed o.home hO.len false
    have ol2 := obj_len o.made L1 L2 n.node n.num o.freed o.home hO.len
    simp only [go_sem, d1, d2, d3, b1, hneB, hneR, hneU, hneL, hneL1, hneL2, n1, n2, n3, n4, n5, n6, h0, h3, h4, h5, h6, hB, hR, hU, encN_cells, T38, ol, o32, o33, o34, hLc, hM1, hM2, Nat.reduceAdd, Nat.reduceBEq, Nat.reduceEqDiff, Nat.reduceLeDiff, Nat.reduceLT, Nat.reduceSub]
    refine LookX.kv ?_
    cases hl1 : lookF o.next (o.node, o.num) with
    | none =>
      simp only [go_sem, hl1, d1, d2, d3, b1, hneB, hneR, hneU, hneL, hneL1, hneL2, n1, n2, n3, n4, n5, n6, h0, h3, h4, h5, h6, hB, hR, hU, encN_cells, T38, ol, o32, o33, o34, hLc, hM1, hM2, Nat.reduceAdd, Nat.reduceBEq, Nat.reduceEqDiff, Nat.reduceLeDiff, Nat.reduceLT, Nat.reduceSub]
      exact hno (hbad (by rw [hl1]; simp)) _ (by repeat (first | exact hF | refine Fr.set ?_ inL _ | refine Fr.set ?_ inL1 _ | refine Fr.set ?_ inL2 _ | refine Fr.var ?_ _ _ _ _ | refine Fr.alloc ?_ _ _ _))
    | some v =>
      rcases two (!((v.1 == n.node) && (v.2 == n.num))) o.freed with b2 | ⟨b2, b3⟩ | ⟨b2, b3⟩
      · cases b3 : o.freed <;> have o36b := o36.trans (congrArg AV.bool b3)
        · simp only [go_sem, hl1, d1, d2, d3, b1, b2, o36b, hneB, hneR, hneU, hneL, hneL1, hneL2, n1, n2, n3, n4, n5, n6, h0, h3, h4, h5, h6, hB, hR, hU, encN_cells, T38, ol, o32, o33, o34, hLc, hM1, hM2, Nat.reduceAdd, Nat.reduceBEq, Nat.reduceEqDiff, Nat.reduceLeDiff, Nat.reduceLT, Nat.reduceSub]
          exact hno (hbad (by rw [b3]; simp)) _ (by repeat (first | exact hF | refine Fr.set ?_ inL _ | refine Fr.set ?_ inL1 _ | refine Fr.set ?_ inL2 _ | refine Fr.var ?_ _ _ _ _ | refine Fr.alloc ?_ _ _ _))
        · simp only [go_sem, hl1, d1, d2, d3, b1, b2, o36b, s34, ol2, hneB, hneR, hneU, hneL, hneL1, hneL2, n1, n2, n3, n4, n5, n6, h0, h3, h4, h5, h6, hB, hR, hU, encN_cells, T38, ol, o32, o33, o34, hLc, hM1, hM2, Nat.reduceAdd, Nat.reduceBEq, Nat.reduceEqDiff, Nat.reduceLeDiff, Nat.reduceLT, Nat.reduceSub]
          have hv : v = (n.node, n.num) := by
            simp at b2
            exact Prod.ext b2.1 b2.2
          have hyn : noteF o n = some { o with node := n.node, num := n.num, freed := false } := by
            unfold noteF; rw [if_neg hc0, if_neg k1, if_neg k2, if_neg k3, if_pos k4, if_pos ⟨by rw [hl1, hv], b3⟩]
          rw [s36]
          refine hyes _ hyn _ ⟨?_, ?_, ?_, hO.len⟩ (by repeat (first | exact hF | refine Fr.set ?_ inL _ | refine Fr.set ?_ inL1 _ | refine Fr.set ?_ inL2 _ | refine Fr.var ?_ _ _ _ _ | refine Fr.alloc ?_ _ _ _))
          · simp only [go_sem, hneB, hneR, hneU, hneL, hneL1, hneL2, n1, n2, n3, n4, n5, n6, h0, h3, h4, h5, h6, hB, hR, hU, encN_cells, T38, ol, o32, o33, o34, hLc, hM1, hM2, Nat.reduceAdd, Nat.reduceBEq, Nat.reduceEqDiff, Nat.reduceLeDiff, Nat.reduceLT, Nat.reduceSub]
          · simp only [go_sem, hneB, hneR, hneU, hneL, hneL1, hneL2, n1, n2, n3, n4, n5, n6, h0, h3, h4, h5, h6, hB, hR, hU, encN_cells, T38, ol, o32, o33, o34, hLc, hM1, hM2, Nat.reduceAdd, Nat.reduceBEq, Nat.reduceEqDiff, Nat.reduceLeDiff, Nat.reduceLT, Nat.reduceSub]
          · simp only [go_sem, hneB, hneR, hneU, hneL, hneL1, hneL2, n1, n2, n3, n4, n5, n6, h0, h3, h4, h5, h6, hB, hR, hU, encN_cells, T38, ol, o32, o33, o34, hLc, hM1, hM2, Nat.reduceAdd, Nat.reduceBEq, Nat.reduceEqDiff, Nat.reduceLeDiff, Nat.reduceLT, Nat.reduceSub]
      all_goals
        have o36b := o36.trans (congrArg AV.bool b3)
        simp only [go_sem, hl1, d1, d2, d3, b1, b2, o36b, hneB, hneR, hneU, hneL, hneL1, hneL2, n1, n2, n3, n4, n5, n6, h0, h3, h4, h5, h6, hB, hR, hU, encN_cells, T38, ol, o32, o33, o34, hLc, hM1, hM2, Nat.reduceAdd, Nat.reduceBEq, Nat.reduceEqDiff, Nat.reduceLeDiff, Nat.reduceLT, Nat.reduceSub]
        refine hno (hbad ?_) _ (by repeat (first | exact hF | refine Fr.set ?_ inL _ | refine Fr.set ?_ inL1 _ | refine Fr.set ?_ inL2 _ | refine Fr.var ?_ _ _ _ _ | refine Fr.alloc ?_ _ _ _))
        rw [hl1]
        simp at b2
        intro hc
        have := hc.1
        simp only [Option.some.injEq] at this
        subst this
        simp at b2
  have d4 : (n.kind == 4) = false := by simpa using k4
  have hf : noteF o n = none := by unfold noteF; rw [if_neg hc0, if_neg k1, if_neg k2, if_neg k3, if_neg k4]
  simp only [go_sem, d1, d2, d3, d4, h0, h3, h4, h5, h6, hB, hR, hU, encN_cells, T38, ol, o32, o33, o34, hLc, hM1, hM2, Nat.reduceAdd, Nat.reduceBEq, Nat.reduceEqDiff, Nat.reduceLeDiff, Nat.reduceLT, Nat.reduceSub]
  exact hno hf _ hF
end Go.Proofs.Ytmajndgdfmnchaa
