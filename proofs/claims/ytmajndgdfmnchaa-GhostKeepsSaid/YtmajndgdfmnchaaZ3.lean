/- Part of a proof: what functions of the given program compute, and plain laws of it. -/
import Derived.Test.YtmajndgdfmnchaaZ2
import Derived.Test.YtmajndgdfmnchaaT3
/- ghost's note. -/
namespace Go.Proofs.Ytmajndgdfmnchaa
open Go Go.T Go.Gh Go.Proofs
@[go_sem] theorem res38 : Try.f38.results = #[.tmp 4] := by kernel_rfl

structure ObAt (h : Hp) (L L1 L2 : Lab) (o : Ob) : Prop where
  con : h.con L = .blk (objC o.made L1 L2 o.node o.num o.freed o.home)
  m1 : h.con L1 = .mp (mapE o.next 0) o.next.length
  m2 : h.con L2 = .mp (mapE o.heirs 0) o.heirs.length
  len : o.made.length = 32

def T38 : Nat → List Tg := fun id => if id = 1 then [.plain, .plain, .plain, .plain, .plain, .plain, .avoid [5], .plain, .avoid [5], .plain, .plain, .plain, .mine]
  else if id = 15 then [.plain, .plain, .plain, .blk, .blk, .plain, .plain, .plain, .blk, .blk, .blk, .blk] else []
set_option linter.unusedSimpArgs false
section
variable (made : List Int) (L1 L2 : Lab) (a b : Int) (f : Bool) (hh : Int) (hm : made.length = 32)
include hm
theorem obj_len : (objC made L1 L2 a b f hh).length = 38 := by simp [objC, hm]
theorem obj_32 : (objC made L1 L2 a b f hh).getD 32 .undef = .mr L1 := by simp [objC, hm]
theorem obj_33 : (objC made L1 L2 a b f hh).getD 33 .undef = .mr L2 := by simp [objC, hm]
theorem obj_36 : (objC made L1 L2 a b f hh).getD 36 .undef = .bool f := by simp [objC, hm]
theorem obj_34 : ((objC made L1 L2 a b f hh).drop 34).take 2 = [.int .i64 a, .int .i64 b] := by
  unfold objC
  rw [List.drop_append, List.drop_eq_nil_of_le (by simp [hm])]
  simp [hm]
theorem obj_s36 (x : Bool) : (objC made L1 L2 a b f hh).set 36 (.bool x) = objC made L1 L2 a b x hh := by
  unfold objC
  rw [List.set_append_right _ _ (by simp [hm])]
  simp [hm]
theorem obj_s34 (x y : Int) : ((objC made L1 L2 a b f hh).set 34 (.int .i64 x)).set 35 (.int .i64 y) = objC made L1 L2 x y f hh := by
  unfold objC
  rw [List.set_append_right _ _ (by simp [hm]), List.set_append_right _ _ (by simp [hm])]
  simp [hm]
theorem obj_m (m : Nat) (h : m < 32) : (objC made L1 L2 a b f hh).getD m .undef = .int .i64 (made.getD m 0) := by
  have : m < made.length := by omega
  simp [objC, List.getElem?_append_left, this]
theorem obj_sm (m : Nat) (h : m < 32) (x : Int) : (objC made L1 L2 a b f hh).set m (.int .i64 x) = objC (made.set m x) L1 L2 a b f hh := by
  unfold objC
  rw [List.set_append_left _ _ (by simp; omega)]
  simp
end

def cutH (h : Hp) (L L1 L2 : Lab) (o : Ob) (n : Note) (s : St) : Prop := s.slots 0 = .pt L 0 0 0 ∧ s.slots 4 = .bool false ∧ (∃ B R U, s.slots 3 = .pt B 0 0 0 ∧ s.slots 5 = .pt R 0 0 0 ∧ s.slots 6 = .pt U 0 0 0 ∧ s.hp.con B = .blk (encN n).cells ∧ s.hp.con R = .blk [.int .i64 n.node, .int .i64 n.num] ∧ s.hp.con U = .blk [.int .i64 n.to, .int .i64 n.next]) ∧ ObAt s.hp L L1 L2 o ∧ Fr [L, L1, L2] h s.hp

set_option maxRecDepth 10000 in
set_option maxHeartbeats 8000000 in
theorem f38_spec (L L1 L2 : Lab) (hL12 : L1 ≠ L2) (h : Hp) (o : Ob) (hob : ObAt h L L1 L2 o) (hbd : ∀ m ∈ o.made, 0 ≤ m ∧ m < 2 ^ 61) (n : Note) (K : AV → Hp → Prop)
    (hno : noteF o n = none → ∀ h', Fr [L, L1, L2] h h' → K (.bool false) h')
    (hyes : ∀ o', noteF o n = some o' → ∀ h', ObAt h' L L1 L2 o' → Fr [L, L1, L2] h h' → K (.bool true) h') :
    CallK Try.prog 38 [.pt L 0 0 0, encN n] h K := by
  refine CallK.of_awpH mixed T38 (fn := Try.f38) (by kernel_rfl) rfl (by kernel_rfl) (by show 2 ≤ _; decide) ?_
  have hl : (h.con L).live := by rw [hob.con]; trivial
  have hl1 : (h.con L1).live := by rw [hob.m1]; trivial
  have hl2 : (h.con L2).live := by rw [hob.m2]; trivial
  refine awp_cut (fun s => s.slots 0 = .pt L 0 0 0 ∧ s.slots 4 = .bool false ∧ (∃ B, B.f = 38 ∧ B.s = 3 ∧ s.slots 3 = .pt B 0 0 0 ∧ s.hp.con B = .blk (encN n).cells) ∧ ObAt s.hp L L1 L2 o ∧ Fr [L, L1, L2] h s.hp) ?_ ?_
  · simp only [go_sem, encN, T38, Nat.reduceAdd, Nat.reduceBEq, Nat.reduceEqDiff, Nat.reduceLeDiff, Nat.reduceLT, Nat.reduceSub]
    refine ⟨⟨_, rfl, rfl, rfl, by simp⟩, ⟨?_, ?_, ?_, hob.len⟩, (Fr.refl _ h).alloc _ _ _⟩
    · simp only [go_sem, lab_ne hl, hob.con]
    · simp only [go_sem, lab_ne hl1, hob.m1]
    · simp only [go_sem, lab_ne hl2, hob.m2]
  rintro s ⟨h0, h4, ⟨B, hBf, hBs, h3, hB⟩, hO, hF⟩
  refine awp_cut (cutH h L L1 L2 o n) ?_ ?_
  · have hne := lab_ne (show (s.hp.con B).live by rw [hB]; trivial)
    have hneL := lab_ne (show (s.hp.con L).live by rw [hO.con]; trivial)
    have hneL1 := lab_ne (show (s.hp.con L1).live by rw [hO.m1]; trivial)
    have hneL2 := lab_ne (show (s.hp.con L2).live by rw [hO.m2]; trivial)
    simp only [go_sem, h0, h3, h4, hB, hBf, hBs, hne, encN_cells, T38, Nat.reduceAdd, Nat.reduceBEq, Nat.reduceEqDiff, Nat.reduceLeDiff, Nat.reduceLT, Nat.reduceSub]
    -- END1
    refine ⟨by simp, by simp, ?_⟩
    have hF1 := hF.alloc 38 5 (.blk [.int .i64 0, .int .i64 0])
    have hF2 := hF1.alloc 38 6 (.blk [.int .i64 0, .int .i64 0])
    refine ⟨by simp only [go_sem, h0, Nat.reduceAdd, Nat.reduceBEq, Nat.reduceEqDiff, Nat.reduceLeDiff, Nat.reduceLT, Nat.reduceSub], by simp only [go_sem, h4, Nat.reduceAdd, Nat.reduceBEq, Nat.reduceEqDiff, Nat.reduceLeDiff, Nat.reduceLT, Nat.reduceSub], ⟨B, ⟨38, 5, s.hp.cnt 38 5⟩, ⟨38, 6, s.hp.cnt 38 6⟩, by simp only [go_sem, h3, Nat.reduceAdd, Nat.reduceBEq, Nat.reduceEqDiff, Nat.reduceLeDiff, Nat.reduceLT, Nat.reduceSub], by simp only [go_sem, Nat.reduceAdd, Nat.reduceBEq, Nat.reduceEqDiff, Nat.reduceLeDiff, Nat.reduceLT, Nat.reduceSub], by simp only [go_sem, Nat.reduceAdd, Nat.reduceBEq, Nat.reduceEqDiff, Nat.reduceLeDiff, Nat.reduceLT, Nat.reduceSub], by simp only [go_sem, hne, hB, Nat.reduceAdd, Nat.reduceBEq, Nat.reduceEqDiff, Nat.reduceLeDiff, Nat.reduceLT, Nat.reduceSub], by simp only [go_sem, Nat.reduceAdd, Nat.reduceBEq, Nat.reduceEqDiff, Nat.reduceLeDiff, Nat.reduceLT, Nat.reduceSub], by simp only [go_sem, Nat.reduceAdd, Nat.reduceBEq, Nat.reduceEqDiff, Nat.reduceLeDiff, Nat.reduceLT, Nat.reduceSub]⟩, ⟨by simp only [go_sem, hneL, hO.con, Nat.reduceAdd, Nat.reduceBEq, Nat.reduceEqDiff, Nat.reduceLeDiff, Nat.reduceLT, Nat.reduceSub], by simp only [go_sem, hneL1, hO.m1, Nat.reduceAdd, Nat.reduceBEq, Nat.reduceEqDiff, Nat.reduceLeDiff, Nat.reduceLT, Nat.reduceSub], by simp only [go_sem, hneL2, hO.m2, Nat.reduceAdd, Nat.reduceBEq, Nat.reduceEqDiff, Nat.reduceLeDiff, Nat.reduceLT, Nat.reduceSub], hO.len⟩, ?_⟩
    exact (hF2.set (hF.new 38 5) _).set (hF1.new 38 6) _
  clear h0 h3 h4 hB hO hF
  rintro s ⟨h0, h4, ⟨B, R, U, h3, h5, h6, hB, hR, hU⟩, hO, hF⟩
  refine awp_cut (fun s => cutH h L L1 L2 o n s ∧ ¬ (n.kind ≠ 2 ∧ (n.to ≠ 0 ∨ n.next ≠ 0))) ?_ ?_
  · have ol := obj_len o.made L1 L2 o.node o.num o.freed o.home hO.len
    rcases two (n.kind != 2) ((n.to == 0) && (n.next == 0)) with b1 | ⟨b1, b2⟩ | ⟨b1, b2⟩
    · simp only [go_sem, b1, h0, h3, h4, h5, h6, hB, hR, hU, encN_cells, T38, Nat.reduceAdd, Nat.reduceBEq, Nat.reduceEqDiff, Nat.reduceLeDiff, Nat.reduceLT, Nat.reduceSub]
      exact ⟨⟨by simp only [go_sem, h0, Nat.reduceAdd, Nat.reduceBEq, Nat.reduceEqDiff, Nat.reduceLeDiff, Nat.reduceLT, Nat.reduceSub], by simp only [go_sem, h4, Nat.reduceAdd, Nat.reduceBEq, Nat.reduceEqDiff, Nat.reduceLeDiff, Nat.reduceLT, Nat.reduceSub], ⟨B, R, U, by simp only [go_sem, h3, Nat.reduceAdd, Nat.reduceBEq, Nat.reduceEqDiff, Nat.reduceLeDiff, Nat.reduceLT, Nat.reduceSub], by simp only [go_sem, h5, Nat.reduceAdd, Nat.reduceBEq, Nat.reduceEqDiff, Nat.reduceLeDiff, Nat.reduceLT, Nat.reduceSub], by simp only [go_sem, h6, Nat.reduceAdd, Nat.reduceBEq, Nat.reduceEqDiff, Nat.reduceLeDiff, Nat.reduceLT, Nat.reduceSub], hB, hR, hU⟩, hO, hF⟩, fun hc => by simp at b1; exact hc.1 b1⟩
    · have hnf : noteF o n = none := by
        unfold noteF; rw [if_pos]
        simp only [bne_iff_ne, ne_eq, Bool.and_eq_false_iff, beq_eq_false_iff_ne] at b1 b2
        exact ⟨b1, b2⟩
      simp only [go_sem, b1, b2, h0, h3, h4, h5, h6, hB, hR, hU, encN_cells, T38, Nat.reduceAdd, Nat.reduceBEq, Nat.reduceEqDiff, Nat.reduceLeDiff, Nat.reduceLT, Nat.reduceSub]
      exact hno hnf _ hF
    · simp only [go_sem, b1, b2, h0, h3, h4, h5, h6, hB, hR, hU, encN_cells, T38, Nat.reduceAdd, Nat.reduceBEq, Nat.reduceEqDiff, Nat.reduceLeDiff, Nat.reduceLT, Nat.reduceSub]
      exact ⟨⟨by simp only [go_sem, h0, Nat.reduceAdd, Nat.reduceBEq, Nat.reduceEqDiff, Nat.reduceLeDiff, Nat.reduceLT, Nat.reduceSub], by simp only [go_sem, h4, Nat.reduceAdd, Nat.reduceBEq, Nat.reduceEqDiff, Nat.reduceLeDiff, Nat.reduceLT, Nat.reduceSub], ⟨B, R, U, by simp only [go_sem, h3, Nat.reduceAdd, Nat.reduceBEq, Nat.reduceEqDiff, Nat.reduceLeDiff, Nat.reduceLT, Nat.reduceSub], by simp only [go_sem, h5, Nat.reduceAdd, Nat.reduceBEq, Nat.reduceEqDiff, Nat.reduceLeDiff, Nat.reduceLT, Nat.reduceSub], by simp only [go_sem, h6, Nat.reduceAdd, Nat.reduceBEq, Nat.reduceEqDiff, Nat.reduceLeDiff, Nat.reduceLT, Nat.reduceSub], hB, hR, hU⟩, hO, hF⟩, fun hc => by simp at b2; omega⟩
  clear h0 h3 h4 h5 h6 hB hR hU hO hF
  rintro s ⟨⟨h0, h4, ⟨B, R, U, h3, h5, h6, hB, hR, hU⟩, hO, hF⟩, hc0⟩
  have ol := obj_len o.made L1 L2 o.node o.num o.freed o.home hO.len
  have o32 := obj_32 o.made L1 L2 o.node o.num o.freed o.home hO.len
  have o33 := obj_33 o.made L1 L2 o.node o.num o.freed o.home hO.len
  have o34 := obj_34 o.made L1 L2 o.node o.num o.freed o.home hO.len
  have o36 := obj_36 o.made L1 L2 o.node o.num o.freed o.home hO.len
  have hLc := hO.con
  have hM1 := hO.m1
  have hM2 := hO.m2
  have hneB := lab_ne (show (s.hp.con B).live by rw [hB]; trivial)
  have hneR := lab_ne (show (s.hp.con R).live by rw [hR]; trivial)
  have hneU := lab_ne (show (s.hp.con U).live by rw [hU]; trivial)
  have hneL := lab_ne (show (s.hp.con L).live by rw [hLc]; trivial)
  have hneL1 := lab_ne (show (s.hp.con L1).live by rw [hM1]; trivial)
  have hneL2 := lab_ne (show (s.hp.con L2).live by rw [hM2]; trivial)
  have inL : L ∈ [L, L1, L2] ∨ h.con L = .none := .inl (by simp)
  have inL1 : L1 ∈ [L, L1, L2] ∨ h.con L1 = .none := .inl (by simp)
  have inL2 : L2 ∈ [L, L1, L2] ∨ h.con L2 = .none := .inl (by simp)
  have n1 : (L1 = L) = False := ne_con hLc hM1 (by simp)
  have n2 : (L2 = L) = False := ne_con hLc hM2 (by simp)
  have n3 : (L2 = L1) = False := eq_false (fun e => hL12 e.symm)
  have n4 : (L1 = L2) = False := eq_false hL12
  have n5 : (L = L1) = False := con_ne hLc hM1 (by simp)
  have n6 : (L = L2) = False := con_ne hLc hM2 (by simp)
  by_cases k1 : n.kind = 1
  · have b1 : (n.kind == 1) = true := by simpa using k1
    have hnf : (n.node < 0 ∨ 32 ≤ n.node ∨ n.num ≠ o.made.getD n.node.toNat 0 + 1) → noteF o n = none := fun hc => by unfold noteF; rw [if_neg hc0, if_pos k1, if_pos hc]
    have hnf2 : ¬ (n.node < 0 ∨ 32 ≤ n.node ∨ n.num ≠ o.made.getD n.node.toNat 0 + 1) → noteF o n = some { o with made := o.made.set n.node.toNat n.num } := fun hc => by unfold noteF; rw [if_neg hc0, if_pos k1, if_neg hc]
    cases b2 : decide (n.node < 0)
    · cases b3 : decide (n.node ≥ 32)
      · have p0 : 0 ≤ n.node := by simpa using b2
        have p1 : n.node < 32 := by simpa using b3
        have p2 : n.node.toNat < 32 := by omega
        have om := obj_m o.made L1 L2 o.node o.num o.freed o.home hO.len _ p2
        have osm := obj_sm o.made L1 L2 o.node o.num o.freed o.home hO.len _ p2 n.num
        have hmem : o.made.getD n.node.toNat 0 ∈ o.made := by
          have : n.node.toNat < o.made.length := by rw [hO.len]; omega
          rw [List.getD_eq_getElem?_getD, List.getElem?_eq_getElem this]; exact List.getElem_mem this
        have hbd := hbd _ hmem
        have hw : IntKind.i64.wrap (o.made.getD n.node.toNat 0 + 1) = o.made.getD n.node.toNat 0 + 1 := IntWalk.i64_in _ (by omega)
        cases b4 : (n.num != o.made.getD n.node.toNat 0 + 1)
        · simp only [go_sem, b1, b2, b3, b4, om, hw, h0, h3, h4, h5, h6, hB, hR, hU, encN_cells, T38, ol, o32, o33, o34, o36, hLc, hM1, hM2, Nat.reduceAdd, Nat.reduceBEq, Nat.reduceEqDiff, Nat.reduceLeDiff, Nat.reduceLT, Nat.reduceSub]
          refine ⟨p0, p1, by omega, p0, p1, by omega, ?_⟩
          rw [osm]
          have hnum : n.num = o.made.getD n.node.toNat 0 + 1 := by simpa using b4
          refine hyes _ (hnf2 (by omega)) _ ⟨by simp only [go_sem, hLc, Nat.reduceAdd, Nat.reduceBEq, Nat.reduceEqDiff, Nat.reduceLeDiff, Nat.reduceLT, Nat.reduceSub], by simp only [go_sem, n1, hM1, Nat.reduceAdd, Nat.reduceBEq, Nat.reduceEqDiff, Nat.reduceLeDiff, Nat.reduceLT, Nat.reduceSub], by simp only [go_sem, n2, hM2, Nat.reduceAdd, Nat.reduceBEq, Nat.reduceEqDiff, Nat.reduceLeDiff, Nat.reduceLT, Nat.reduceSub], by simp [hO.len]⟩ (hF.set inL _)
        · have hf := hnf (.inr (.inr (by simpa using b4)))
          simp only [go_sem, b1, b2, b3, b4, om, hw, h0, h3, h4, h5, h6, hB, hR, hU, encN_cells, T38, ol, o32, o33, o34, o36, hLc, hM1, hM2, Nat.reduceAdd, Nat.reduceBEq, Nat.reduceEqDiff, Nat.reduceLeDiff, Nat.reduceLT, Nat.reduceSub]
          exact ⟨p0, p1, by omega, hno hf _ hF⟩
      · have hf := hnf (.inr (.inl (by simpa using b3)))
        simp only [go_sem, b1, b2, b3, h0, h3, h4, h5, h6, hB, hR, hU, encN_cells, T38, ol, o32, o33, o34, o36, hLc, hM1, hM2, Nat.reduceAdd, Nat.reduceBEq, Nat.reduceEqDiff, Nat.reduceLeDiff, Nat.reduceLT, Nat.reduceSub]
        exact hno hf _ hF
    · have hf := hnf (.inl (by simpa using b2))
      simp only [go_sem, b1, b2, h0, h3, h4, h5, h6, hB, hR, hU, encN_cells, T38, ol, o32, o33, o34, o36, hLc, hM1, hM2, Nat.reduceAdd, Nat.reduceBEq, Nat.reduceEqDiff, Nat.reduceLeDiff, Nat.reduceLT, Nat.reduceSub]
      exact hno hf _ hF
  have d1 : (n.kind == 1) = false := by simpa using k1
  by_cases k2 : n.kind = 2
  · have b1 : (n.kind == 2) = true := by simpa using k2
    have hbad : (hasB o.made o.home n.node n.num = false ∨ hasB o.made o.home n.to n.next = false ∨ (n.next == 0) = true ∨ (lookF o.next (n.node, n.num)).isSome = true ∨ (lookF o.heirs (n.to, n.next)).isSome = true) → noteF o n = none := fun hc => by
      unfold noteF; rw [if_neg hc0, if_neg k1, if_pos k2, if_pos]
      simp only [Bool.or_eq_true, Bool.not_eq_true']
      rcases hc with hc | hc | hc | hc | hc <;> simp [hc]
    simp only [go_sem, d1, b1, h0, h3, h4, h5, h6, hB, hR, hU, encN_cells, T38, ol, o32, o33, o34, o36, hLc, hM1, hM2, Nat.reduceAdd, Nat.reduceBEq, Nat.reduceEqDiff, Nat.reduceLeDiff, Nat.reduceLT, Nat.reduceSub]
    refine LookX.kv ?_
    cases hl1 : lookF o.next (n.node, n.num) <;> simp only [go_sem, hl1, d1, b1, hneB, hneR, hneU, hneL, hneL1, hneL2, n1, n2, n3, n4, n5, n6, h0, h3, h4, h5, h6, hB, hR, hU, encN_cells, T38, ol, o32, o33, o34, o36, hLc, hM1, hM2, Nat.reduceAdd, Nat.reduceBEq, Nat.reduceEqDiff, Nat.reduceLeDiff, Nat.reduceLT, Nat.reduceSub] <;> refine LookX.kv ?_ <;> cases hl2 : lookF o.heirs (n.to, n.next) <;> simp only [go_sem, hl2, d1, b1, hneB, hneR, hneU, hneL, hneL1, hneL2, n1, n2, n3, n4, n5, n6, h0, h3, h4, h5, h6, hB, hR, hU, encN_cells, T38, ol, o32, o33, o34, o36, hLc, hM1, hM2, Nat.reduceAdd, Nat.reduceBEq, Nat.reduceEqDiff, Nat.reduceLeDiff, Nat.reduceLT, Nat.reduceSub]
    all_goals refine CallX.at (f70_spec o.made L1 L2 o.node o.num o.freed o.home n.node n.num L _ (by simp only [go_sem, hneB, hneR, hneU, hneL, hneL1, hneL2, n1, n2, n3, n4, n5, n6, h0, h3, h4, h5, h6, hB, hR, hU, encN_cells, T38, ol, o32, o33, o34, o36, hLc, hM1, hM2, Nat.reduceAdd, Nat.reduceBEq, Nat.reduceEqDiff, Nat.reduceLeDiff, Nat.reduceLT, Nat.reduceSub]) hO.len) ?_
    all_goals cases b3 : hasB o.made o.home n.node n.num
    all_goals simp only [go_sem, b3, d1, b1, hneB, hneR, hneU, hneL, hneL1, hneL2, n1, n2, n3, n4, n5, n6, h0, h3, h4, h5, h6, hB, hR, hU, encN_cells, T38, ol, o32, o33, o34, o36, hLc, hM1, hM2, Nat.reduceAdd, Nat.reduceBEq, Nat.reduceEqDiff, Nat.reduceLeDiff, Nat.reduceLT, Nat.reduceSub]
    all_goals first | exact hno (hbad (.inl b3)) _ (by repeat (first | exact hF | refine Fr.set ?_ inL _ | refine Fr.set ?_ inL1 _ | refine Fr.set ?_ inL2 _ | refine Fr.var ?_ _ _ _ _ | refine Fr.alloc ?_ _ _ _)) | skip
    all_goals refine CallX.at (f70_spec o.made L1 L2 o.node o.num o.freed o.home n.to n.next L _ (by simp only [go_sem, hneB, hneR, hneU, hneL, hneL1, hneL2, n1, n2, n3, n4, n5, n6, h0, h3, h4, h5, h6, hB, hR, hU, encN_cells, T38, ol, o32, o33, o34, o36, hLc, hM1, hM2, Nat.reduceAdd, Nat.reduceBEq, Nat.reduceEqDiff, Nat.reduceLeDiff, Nat.reduceLT, Nat.reduceSub]) hO.len) ?_
    all_goals cases b4 : hasB o.made o.home n.to n.next <;> cases b5 : (n.next == 0)
    all_goals simp only [go_sem, b3, b4, b5, d1, b1, hneB, hneR, hneU, hneL, hneL1, hneL2, n1, n2, n3, n4, n5, n6, h0, h3, h4, h5, h6, hB, hR, hU, encN_cells, T38, ol, o32, o33, o34, o36, hLc, hM1, hM2, Nat.reduceAdd, Nat.reduceBEq, Nat.reduceEqDiff, Nat.reduceLeDiff, Nat.reduceLT, Nat.reduceSub]
    all_goals first | exact hno (hbad (by first | exact .inr (.inl b4) | exact .inr (.inr (.inl b5)) | exact .inr (.inr (.inr (.inl (by rw [hl1]; rfl)))) | exact .inr (.inr (.inr (.inr (by rw [hl2]; rfl)))))) _ (by repeat (first | exact hF | refine Fr.set ?_ inL _ | refine Fr.set ?_ inL1 _ | refine Fr.set ?_ inL2 _ | refine Fr.var ?_ _ _ _ _ | refine Fr.alloc ?_ _ _ _)) | skip
    refine EntryX.kv hl1 ?_
    simp only [go_sem, b3, b4, b5, d1, b1, hneB, hneR, hneU, hneL, hneL1, hneL2, n1, n2, n3, n4, n5, n6, h0, h3, h4, h5, h6, hB, hR, hU, encN_cells, T38, ol, o32, o33, o34, o36, hLc, hM1, hM2, Nat.reduceAdd, Nat.reduceBEq, Nat.reduceEqDiff, Nat.reduceLeDiff, Nat.reduceLT, Nat.reduceSub]
    refine StoreX.kv rfl ?_
    simp only [go_sem, b3, b4, b5, d1, b1, hneB, hneR, hneU, hneL, hneL1, hneL2, n1, n2, n3, n4, n5, n6, h0, h3, h4, h5, h6, hB, hR, hU, encN_cells, T38, ol, o32, o33, o34, o36, hLc, hM1, hM2, Nat.reduceAdd, Nat.reduceBEq, Nat.reduceEqDiff, Nat.reduceLeDiff, Nat.reduceLT, Nat.reduceSub]
    refine EntryX.kv hl2 ?_
    simp only [go_sem, b3, b4, b5, d1, b1, hneB, hneR, hneU, hneL, hneL1, hneL2, n1, n2, n3, n4, n5, n6, h0, h3, h4, h5, h6, hB, hR, hU, encN_cells, T38, ol, o32, o33, o34, o36, hLc, hM1, hM2, Nat.reduceAdd, Nat.reduceBEq, Nat.reduceEqDiff, Nat.reduceLeDiff, Nat.reduceLT, Nat.reduceSub]
    refine StoreX.kv rfl ?_
    simp only [go_sem, b3, b4, b5, d1, b1, hneB, hneR, hneU, hneL, hneL1, hneL2, n1, n2, n3, n4, n5, n6, h0, h3, h4, h5, h6, hB, hR, hU, encN_cells, T38, ol, o32, o33, o34, o36, hLc, hM1, hM2, Nat.reduceAdd, Nat.reduceBEq, Nat.reduceEqDiff, Nat.reduceLeDiff, Nat.reduceLT, Nat.reduceSub]
    have hyn : noteF o n = some { o with next := o.next ++ [((n.node, n.num), (n.to, n.next))], heirs := o.heirs ++ [((n.to, n.next), (n.node, n.num))] } := by
      unfold noteF; rw [if_neg hc0, if_neg k1, if_pos k2, if_neg]
      simp [b3, b4, b5, hl1, hl2]
    refine hyes _ hyn _ ⟨?_, ?_, ?_, hO.len⟩ (by repeat (first | exact hF | refine Fr.set ?_ inL _ | refine Fr.set ?_ inL1 _ | refine Fr.set ?_ inL2 _ | refine Fr.var ?_ _ _ _ _ | refine Fr.alloc ?_ _ _ _))
    · simp only [go_sem, hneB, hneR, hneU, hneL, hneL1, hneL2, n1, n2, n3, n4, n5, n6, h0, h3, h4, h5, h6, hB, hR, hU, encN_cells, T38, ol, o32, o33, o34, o36, hLc, hM1, hM2, Nat.reduceAdd, Nat.reduceBEq, Nat.reduceEqDiff, Nat.reduceLeDiff, Nat.reduceLT, Nat.reduceSub]
    · simp only [go_sem, hneB, hneR, hneU, hneL, hneL1, hneL2, n1, n2, n3, n4, n5, n6, h0, h3, h4, h5, h6, hB, hR, hU, encN_cells, T38, ol, o32, o33, o34, o36, hLc, hM1, hM2, Nat.reduceAdd, Nat.reduceBEq, Nat.reduceEqDiff, Nat.reduceLeDiff, Nat.reduceLT, Nat.reduceSub]; simp
    · simp only [go_sem, hneB, hneR, hneU, hneL, hneL1, hneL2, n1, n2, n3, n4, n5, n6, h0, h3, h4, h5, h6, hB, hR, hU, encN_cells, T38, ol, o32, o33, o34, o36, hLc, hM1, hM2, Nat.reduceAdd, Nat.reduceBEq, Nat.reduceEqDiff, Nat.reduceLeDiff, Nat.reduceLT, Nat.reduceSub]; simp
  have d2 : (n.kind == 2) = false := by simpa using k2
  by_cases k3 : n.kind = 3
  · have b1 : (n.kind == 3) = true := by simpa using k3
    have hbad : (n.node ≠ o.node ∨ n.num ≠ o.num ∨ o.freed = true) → noteF o n = none := fun hc => by
      unfold noteF; rw [if_neg hc0, if_neg k1, if_neg k2, if_pos k3, if_pos hc]
    have s36 := obj_s36 o.made L1 L2 o.node o.num o.freed o.home hO.len true
    rcases two (!((n.node == o.node) && (n.num == o.num))) o.freed with b2 | ⟨b2, b3⟩ | ⟨b2, b3⟩
    · cases b3 : o.freed <;> have o36b := o36.trans (congrArg AV.bool b3)
      · simp only [go_sem, d1, d2, b1, b2, o36b, hneB, hneR, hneU, hneL, hneL1, hneL2, n1, n2, n3, n4, n5, n6, h0, h3, h4, h5, h6, hB, hR, hU, encN_cells, T38, ol, o32, o33, o34, hLc, hM1, hM2, Nat.reduceAdd, Nat.reduceBEq, Nat.reduceEqDiff, Nat.reduceLeDiff, Nat.reduceLT, Nat.reduceSub]
        have hyn : noteF o n = some { o with freed := true } := by
          unfold noteF; rw [if_neg hc0, if_neg k1, if_neg k2, if_pos k3, if_neg]
          simp at b2
          rw [b3]; simp [b2]
        rw [s36]
        refine hyes _ hyn _ ⟨?_, ?_, ?_, hO.len⟩ (by repeat (first | exact hF | refine Fr.set ?_ inL _ | refine Fr.set ?_ inL1 _ | refine Fr.set ?_ inL2 _ | refine Fr.var ?_ _ _ _ _ | refine Fr.alloc ?_ _ _ _))
        · simp only [go_sem, hneB, hneR, hneU, hneL, hneL1, hneL2, n1, n2, n3, n4, n5, n6, h0, h3, h4, h5, h6, hB, hR, hU, encN_cells, T38, ol, o32, o33, o34, hLc, hM1, hM2, Nat.reduceAdd, Nat.reduceBEq, Nat.reduceEqDiff, Nat.reduceLeDiff, Nat.reduceLT, Nat.reduceSub]
        · simp only [go_sem, hneB, hneR, hneU, hneL, hneL1, hneL2, n1, n2, n3, n4, n5, n6, h0, h3, h4, h5, h6, hB, hR, hU, encN_cells, T38, ol, o32, o33, o34, hLc, hM1, hM2, Nat.reduceAdd, Nat.reduceBEq, Nat.reduceEqDiff, Nat.reduceLeDiff, Nat.reduceLT, Nat.reduceSub]
        · simp only [go_sem, hneB, hneR, hneU, hneL, hneL1, hneL2, n1, n2, n3, n4, n5, n6, h0, h3, h4, h5, h6, hB, hR, hU, encN_cells, T38, ol, o32, o33, o34, hLc, hM1, hM2, Nat.reduceAdd, Nat.reduceBEq, Nat.reduceEqDiff, Nat.reduceLeDiff, Nat.reduceLT, Nat.reduceSub]
      · simp only [go_sem, d1, d2, b1, b2, o36b, hneB, hneR, hneU, hneL, hneL1, hneL2, n1, n2, n3, n4, n5, n6, h0, h3, h4, h5, h6, hB, hR, hU, encN_cells, T38, ol, o32, o33, o34, hLc, hM1, hM2, Nat.reduceAdd, Nat.reduceBEq, Nat.reduceEqDiff, Nat.reduceLeDiff, Nat.reduceLT, Nat.reduceSub]
        exact hno (hbad (.inr (.inr b3))) _ hF
    all_goals
      have o36b := o36.trans (congrArg AV.bool b3)
      simp only [go_sem, d1, d2, b1, b2, o36b, hneB, hneR, hneU, hneL, hneL1, hneL2, n1, n2, n3, n4, n5, n6, h0, h3, h4, h5, h6, hB, hR, hU, encN_cells, T38, ol, o32, o33, o34, hLc, hM1, hM2, Nat.reduceAdd, Nat.reduceBEq, Nat.reduceEqDiff, Nat.reduceLeDiff, Nat.reduceLT, Nat.reduceSub]
      refine hno (hbad ?_) _ hF
      simp at b2
      rcases b2 with b2 | b2
      · exact .inl b2
      · exact .inr (.inl b2)
  have d3 : (n.kind == 3) = false := by simpa using k3
  by_cases k4 : n.kind = 4
  · have b1 : (n.kind == 4) = true := by simpa using k4
    have hbad : ¬ (lookF o.next (o.node, o.num) = some (n.node, n.num) ∧ o.freed = true) → noteF o n = none := fun hc => by
      unfold noteF; rw [if_neg hc0, if_neg k1, if_neg k2, if_neg k3, if_pos k4, if_neg hc]
    have s34 := obj_s34 o.made L1 L2 o.node o.num o.freed o.home hO.len n.node n.num
    have s36 := obj_s36 o.made L1 L2 n.node n.num o.freed o.home hO.len false
    have ol2 := obj_len o.made L1 L2 n.node n.num o.freed o.home hO.len
    simp only [go_sem, d1, d2, d3, b1, hneB, hneR, hneU, hneL, hneL1, hneL2, n1, n2, n3, n4, n5, n6, h0, h3, h4, h5, h6, hB, hR, hU, encN_cells, T38, ol, o32, o33, o34, hLc, hM1, hM2, Nat.reduceAdd, Nat.reduceBEq, Nat.reduceEqDiff, Nat.reduceLeDiff, Nat.reduceLT, Nat.reduceSub]
    refine LookX.kv ?_
    cases hl1 : lookF o.next (o.node, o.num) with
    | none =>
      simp only [go_sem, hl1, d1, d2, d3, b1, hneB, hneR, hneU, hneL, hneL1, hneL2, n1, n2, n3, n4, n5, n6, h0, h3, h4, h5, h6, hB, hR, hU, encN_cells, T38, ol, o32, o33, o34, hLc, hM1, hM2, Nat.reduceAdd, Nat.reduceBEq, Nat.reduceEqDiff, Nat.reduceLeDiff, Nat.reduceLT, Nat.reduceSub]
      exact hno (hbad (by rw [hl1]; simp)) _ (by repeat (first | exact hF | refine Fr.set ?_ inL _ | refine Fr.set ?_ inL1 _ | refine Fr.set ?_ inL2 _ | refine Fr.var ?_ _ _ _ _ | refine Fr.alloc ?_ _ _ _))
    | some v =>
      rcases two (!((v.1 == n.node) && (v.2 == n.num))) o.freed with b2 | ⟨b2, b3⟩ | ⟨b2, b3⟩
      · cases b3 : o.freed <;> have o36b := o36.trans (congrArg AV.bool b3)
        · simp only [go_sem, hl1, d1, d2, d3, b1, b2, o36b, hneB, hneR, hneU, hneL, hneL1, hneL2, n1, n2, n3, n4, n5, n6, h0, h3, h4, h5, h6, hB, hR, hU, encN_cells, T38, ol, o32, o33, o34, hLc, hM1, hM2, Nat.reduceAdd, Nat.reduceBEq, Nat.reduceEqDiff, Nat.reduceLeDiff, Nat.reduceLT, Nat.reduceSub]
          exact hno (hbad (by rw [b3]; simp)) _ (by repeat (first | exact hF | refine Fr.set ?_ inL _ | refine Fr.set ?_ inL1 _ | refine Fr.set ?_ inL2 _ | refine Fr.var ?_ _ _ _ _ | refine Fr.alloc ?_ _ _ _))
        · simp only [go_sem, hl1, d1, d2, d3, b1, b2, o36b, s34, ol2, hneB, hneR, hneU, hneL, hneL1, hneL2, n1, n2, n3, n4, n5, n6, h0, h3, h4, h5, h6, hB, hR, hU, encN_cells, T38, ol, o32, o33, o34, hLc, hM1, hM2, Nat.reduceAdd, Nat.reduceBEq, Nat.reduceEqDiff, Nat.reduceLeDiff, Nat.reduceLT, Nat.reduceSub]
          have hv : v = (n.node, n.num) := by
            simp at b2
            exact Prod.ext b2.1 b2.2
          have hyn : noteF o n = some { o with node := n.node, num := n.num, freed := false } := by
            unfold noteF; rw [if_neg hc0, if_neg k1, if_neg k2, if_neg k3, if_pos k4, if_pos ⟨by rw [hl1, hv], b3⟩]
          rw [s36]
          refine hyes _ hyn _ ⟨?_, ?_, ?_, hO.len⟩ (by repeat (first | exact hF | refine Fr.set ?_ inL _ | refine Fr.set ?_ inL1 _ | refine Fr.set ?_ inL2 _ | refine Fr.var ?_ _ _ _ _ | refine Fr.alloc ?_ _ _ _))
          · simp only [go_sem, hneB, hneR, hneU, hneL, hneL1, hneL2, n1, n2, n3, n4, n5, n6, h0, h3, h4, h5, h6, hB, hR, hU, encN_cells, T38, ol, o32, o33, o34, hLc, hM1, hM2, Nat.reduceAdd, Nat.reduceBEq, Nat.reduceEqDiff, Nat.reduceLeDiff, Nat.reduceLT, Nat.reduceSub]
          · simp only [go_sem, hneB, hneR, hneU, hneL, hneL1, hneL2, n1, n2, n3, n4, n5, n6, h0, h3, h4, h5, h6, hB, hR, hU, encN_cells, T38, ol, o32, o33, o34, hLc, hM1, hM2, Nat.reduceAdd, Nat.reduceBEq, Nat.reduceEqDiff, Nat.reduceLeDiff, Nat.reduceLT, Nat.reduceSub]
          · simp only [go_sem, hneB, hneR, hneU, hneL, hneL1, hneL2, n1, n2, n3, n4, n5, n6, h0, h3, h4, h5, h6, hB, hR, hU, encN_cells, T38, ol, o32, o33, o34, hLc, hM1, hM2, Nat.reduceAdd, Nat.reduceBEq, Nat.reduceEqDiff, Nat.reduceLeDiff, Nat.reduceLT, Nat.reduceSub]
      all_goals
        have o36b := o36.trans (congrArg AV.bool b3)
        simp only [go_sem, hl1, d1, d2, d3, b1, b2, o36b, hneB, hneR, hneU, hneL, hneL1, hneL2, n1, n2, n3, n4, n5, n6, h0, h3, h4, h5, h6, hB, hR, hU, encN_cells, T38, ol, o32, o33, o34, hLc, hM1, hM2, Nat.reduceAdd, Nat.reduceBEq, Nat.reduceEqDiff, Nat.reduceLeDiff, Nat.reduceLT, Nat.reduceSub]
        refine hno (hbad ?_) _ (by repeat (first | exact hF | refine Fr.set ?_ inL _ | refine Fr.set ?_ inL1 _ | refine Fr.set ?_ inL2 _ | refine Fr.var ?_ _ _ _ _ | refine Fr.alloc ?_ _ _ _))
        rw [hl1]
        simp at b2
        intro hc
        have := hc.1
        simp only [Option.some.injEq] at this
        subst this
        simp at b2
  have d4 : (n.kind == 4) = false := by simpa using k4
  have hf : noteF o n = none := by unfold noteF; rw [if_neg hc0, if_neg k1, if_neg k2, if_neg k3, if_neg k4]
  simp only [go_sem, d1, d2, d3, d4, h0, h3, h4, h5, h6, hB, hR, hU, encN_cells, T38, ol, o32, o33, o34, hLc, hM1, hM2, Nat.reduceAdd, Nat.reduceBEq, Nat.reduceEqDiff, Nat.reduceLeDiff, Nat.reduceLT, Nat.reduceSub]
  exact hno hf _ hF
end Go.Proofs.Ytmajndgdfmnchaa
/- ghost's Check. -/
namespace Go.Proofs.Ytmajndgdfmnchaa
open Go Go.T Go.Gh Go.Proofs
@[go_sem] theorem res13 : Try.f13.results = #[.tmp 4, .tmp 5] := by kernel_rfl

def tri (t : Lab × Lab × Lab) : List Lab := [t.1, t.2.1, t.2.2]
/-- The objects in memory. -/
structure Objs (g H : Hp) (labs : List (Lab × Lab × Lab)) (ob : Nat → Ob) : Prop where
  obj : ∀ k, (hk : k < labs.length) → ObAt H labs[k].1 labs[k].2.1 labs[k].2.2 (ob k)
  ne : ∀ k, (hk : k < labs.length) → labs[k].2.1 ≠ labs[k].2.2
  new : ∀ k, (hk : k < labs.length) → ∀ x ∈ tri labs[k], g.con x = .none
  dis : ∀ j k, (hj : j < labs.length) → (hk : k < labs.length) → j ≠ k → ∀ x ∈ tri labs[j], x ∉ tri labs[k]

/-- Variables and maps are as they were. -/
def KeepsO (h H : Hp) : Prop := ∀ M, (∀ cs, h.con M ≠ .blk cs) ∧ (∀ es c, h.con M ≠ .mp es c) ∨ H.con M = h.con M
theorem Keeps.toO {h H : Hp} (k : Keeps h H) : KeepsO h H := fun M => by
  rcases k M with h1 | h1
  · left; rw [h1]; exact ⟨fun _ => by simp, fun _ _ => by simp⟩
  · exact .inr h1
theorem KeepsO.arr {h : Hp} {L : Lab} {sz : Nat} {xs : List AV} (hL : h.con L = .arr sz xs) (c : Con) (f s : Nat) (c' : Con) : KeepsO h ((h.set L c).alloc f s c') := by
  intro M
  by_cases hE : M = ⟨f, s, (h.set L c).cnt f s⟩
  · left
    have : h.con M = .none := by rw [hE]; exact h.ok _ (by simp [Hp.set])
    rw [this]; exact ⟨fun _ => by simp, fun _ _ => by simp⟩
  · by_cases hE2 : M = L
    · left; rw [hE2, hL]; exact ⟨fun _ => by simp, fun _ _ => by simp⟩
    · right
      rw [show ((h.set L c).alloc f s c').con M = (h.set L c).con M from if_neg hE]
      exact if_neg hE2
theorem ObAt.keep {H H' : Hp} {L L1 L2 : Lab} {o : Ob} (h : ObAt H L L1 L2 o) (k : KeepsO H H') : ObAt H' L L1 L2 o := by
  refine ⟨?_, ?_, ?_, h.len⟩
  · rcases k L with h1 | h1
    · exact absurd h.con (h1.1 _)
    · rw [h1]; exact h.con
  · rcases k L1 with h1 | h1
    · exact absurd h.m1 (h1.2 _ _)
    · rw [h1]; exact h.m1
  · rcases k L2 with h1 | h1
    · exact absurd h.m2 (h1.2 _ _)
    · rw [h1]; exact h.m2
theorem Objs.keep {g H H' : Hp} {labs : List (Lab × Lab × Lab)} {ob : Nat → Ob} (h : Objs g H labs ob) (k : KeepsO H H') : Objs g H' labs ob :=
  ⟨fun i hi => (h.obj i hi).keep k, h.ne, h.new, h.dis⟩
theorem Objs.nil (g H : Hp) (ob : Nat → Ob) : Objs g H [] ob :=
  ⟨fun k hk => by simp at hk, fun k hk => by simp at hk, fun k hk => by simp at hk, fun j k hj => by simp at hj⟩
theorem ObAt.live {H : Hp} {L L1 L2 : Lab} {o : Ob} (h : ObAt H L L1 L2 o) : ∀ x ∈ tri (L, L1, L2), H.con x ≠ .none := by
  intro x hx
  simp only [tri, List.mem_cons, List.not_mem_nil, or_false] at hx
  rcases hx with rfl | rfl | rfl
  · rw [h.con]; simp
  · rw [h.m1]; simp
  · rw [h.m2]; simp
theorem Objs.push {g H H' : Hp} {labs : List (Lab × Lab × Lab)} {ob : Nat → Ob} (h : Objs g H labs ob) (k_ : KeepsO H H') {L L1 L2 : Lab} {o : Ob} (ho : ObAt H' L L1 L2 o) (hob : ob labs.length = o) (hne : L1 ≠ L2)
    (hn : H.con L = .none ∧ H.con L1 = .none ∧ H.con L2 = .none) (hg : Keeps g H) : Objs g H' (labs ++ [(L, L1, L2)]) ob := by
  have hnew : ∀ x ∈ tri (L, L1, L2), H.con x = .none := by
    intro x hx
    simp only [tri, List.mem_cons, List.not_mem_nil, or_false] at hx
    rcases hx with rfl | rfl | rfl
    · exact hn.1
    · exact hn.2.1
    · exact hn.2.2
  have hfr : ∀ j, (hj : j < labs.length) → ∀ x ∈ tri labs[j], x ∉ tri (L, L1, L2) := fun j hj x hx hx2 => (h.obj j hj).live x hx (hnew x hx2)
  have cases_ : ∀ k, k < (labs ++ [(L, L1, L2)]).length → (∃ hk : k < labs.length, (labs ++ [(L, L1, L2)])[k]? = some labs[k]) ∨ (k = labs.length ∧ (labs ++ [(L, L1, L2)])[k]? = some (L, L1, L2)) := by
    intro k hk
    rcases Nat.lt_or_ge k labs.length with h1 | h1
    · exact .inl ⟨h1, by rw [List.getElem?_append_left h1, List.getElem?_eq_getElem h1]⟩
    · have : k = labs.length := by simp at hk; omega
      exact .inr ⟨this, by rw [this]; simp⟩
  have at_ : ∀ k (hk : k < (labs ++ [(L, L1, L2)]).length) y, (labs ++ [(L, L1, L2)])[k]? = some y → (labs ++ [(L, L1, L2)])[k] = y := fun k hk y hy => by rw [List.getElem?_eq_getElem hk] at hy; exact Option.some.inj hy
  refine ⟨fun k hk => ?_, fun k hk => ?_, fun k hk => ?_, fun j k hj hk hjk => ?_⟩
  · rcases cases_ k hk with ⟨h1, h2⟩ | ⟨h1, h2⟩
    · rw [at_ k hk _ h2]; exact (h.obj k h1).keep k_
    · rw [at_ k hk _ h2, h1, hob]; exact ho
  · rcases cases_ k hk with ⟨h1, h2⟩ | ⟨h1, h2⟩
    · rw [at_ k hk _ h2]; exact h.ne k h1
    · rw [at_ k hk _ h2]; exact hne
  · rcases cases_ k hk with ⟨h1, h2⟩ | ⟨h1, h2⟩
    · rw [at_ k hk _ h2]; exact h.new k h1
    · rw [at_ k hk _ h2]; intro x hx
      rcases hg x with h3 | h3
      · exact h3
      · rw [← h3]; exact hnew x hx
  · rcases cases_ j hj with ⟨h1, h2⟩ | ⟨h1, h2⟩ <;> rcases cases_ k hk with ⟨h3, h4⟩ | ⟨h3, h4⟩
    · rw [at_ j hj _ h2, at_ k hk _ h4]; exact h.dis j k h1 h3 hjk
    · rw [at_ j hj _ h2, at_ k hk _ h4]; exact hfr j h1
    · rw [at_ j hj _ h2, at_ k hk _ h4]; exact fun x hx hx2 => hfr k h3 x hx2 hx
    · omega
theorem Objs.step {g H H' : Hp} {labs : List (Lab × Lab × Lab)} {ob ob' : Nat → Ob} (h : Objs g H labs ob) {k : Nat} (hk : k < labs.length) (hF : Fr [labs[k].1, labs[k].2.1, labs[k].2.2] H H')
    (ho : ObAt H' labs[k].1 labs[k].2.1 labs[k].2.2 (ob' k)) (hob : ∀ j, j ≠ k → ob' j = ob j) : Objs g H' labs ob' := by
  refine ⟨fun j hj => ?_, h.ne, h.new, h.dis⟩
  by_cases hjk : j = k
  · subst hjk; exact ho
  · rw [hob j hjk]
    have hd := h.dis j k hj hk hjk
    have hl := (h.obj j hj).live
    have same : ∀ x ∈ tri labs[j], H'.con x = H.con x := fun x hx => by
      rcases hF x with h1 | h1 | h1
      · exact absurd h1 (hd x hx)
      · exact absurd h1 (hl x hx)
      · exact h1
    have hO := h.obj j hj
    refine ⟨?_, ?_, ?_, hO.len⟩
    · rw [same _ (by simp [tri])]; exact hO.con
    · rw [same _ (by simp [tri])]; exact hO.m1
    · rw [same _ (by simp [tri])]; exact hO.m2

theorem obOf_nil (home : Int) (k : Int) : obOf home k [] = ⟨List.replicate 32 0, [], [], home, 0, true, home⟩ := by
  unfold obOf
  simp only [List.filter_nil, List.map_nil, atOf, List.foldl_nil, Ob.mk.injEq, and_true]
  rw [List.eq_replicate_iff]
  refine ⟨by simp, fun b hb => ?_⟩
  simp only [List.mem_map] at hb
  obtain ⟨v, _, rfl⟩ := hb
  simp [madeN]

set_option linter.unusedSimpArgs false
def ptA (t : Lab × Lab × Lab) : AV := .pt t.1 0 0 0
@[go_sem] theorem ptA_cells (t : Lab × Lab × Lab) : (ptA t).cells = [.pt t.1 0 0 0] := by simp [ptA, AV.cells]
/-- The list of objects: none yet, or a slice of one's own. -/
def ObS (g H : Hp) (v : AV) (labs : List (Lab × Lab × Lab)) : Prop :=
  (labs = [] ∧ v = .l true 0 []) ∨ ∃ Lo, v = .os Lo ∧ H.con Lo = .arr 1 (labs.map ptA) ∧ g.con Lo = .none
def ob0 (homes : List Int) (ns : List Note) (k : Nat) : Ob := obOf (homes.getD k 0) k ns

set_option maxRecDepth 10000 in
set_option maxHeartbeats 8000000 in
theorem f13_spec (homes : List Int) (eh : Bool) (ns : List Note) (ex : Bool) (hlen : ns.length < 2 ^ 60) :
    PureF Try.prog 13 [.l eh 1 (homes.map I), .l ex 6 (ns.map encN)] (pairV (checkR homes ns)) := by
  refine PureF.of_awp mixed (fun _ => []) (fn := Try.f13) (by kernel_rfl) rfl (by kernel_rfl) (by show 2 ≤ _; decide) (by simp [AV.lf, AV.lfs, pairV]) (fun h => ?_)
  refine awp_cut (fun s => s.slots 0 = .l eh 1 (homes.map I) ∧ s.slots 1 = .l ex 6 (ns.map encN) ∧ s.hp = h) ?_ ?_
  · simp only [go_sem, Nat.reduceAdd, Nat.reduceBEq, Nat.reduceEqDiff, Nat.reduceLeDiff, Nat.reduceLT, Nat.reduceSub]
  rintro s ⟨h0, h1, hE⟩
  refine awp_cut (fun s => s.slots 0 = .l eh 1 (homes.map I) ∧ s.slots 1 = .l ex 6 (ns.map encN) ∧ s.slots 6 = .l true 0 [] ∧ s.hp = h) ?_ ?_
  · simp only [go_sem, h0, h1, hE, Nat.reduceAdd, Nat.reduceBEq, Nat.reduceEqDiff, Nat.reduceLeDiff, Nat.reduceLT, Nat.reduceSub]
  clear h0 h1 hE
  rintro s ⟨h0, h1, h6, hE⟩
  refine awp_cut (fun s => s.slots 0 = .l eh 1 (homes.map I) ∧ s.slots 1 = .l ex 6 (ns.map encN) ∧ badHomes homes = false ∧ ∃ labs, labs.length = homes.length ∧ ObS h s.hp (s.slots 6) labs ∧ Objs h s.hp labs (ob0 homes []) ∧ Keeps h s.hp) ?_ ?_
  · simp only [go_sem, h0, h1, h6, hE, Nat.reduceAdd, Nat.reduceBEq, Nat.reduceEqDiff, Nat.reduceLeDiff, Nat.reduceLT, Nat.reduceSub]
    rw [awp_loop]
    refine ⟨fun s => ∃ i : Nat, i ≤ homes.length ∧ s.slots 0 = .l eh 1 (homes.map I) ∧ s.slots 1 = .l ex 6 (ns.map encN) ∧ s.slots 11 = .l eh 1 (homes.map I) ∧ s.slots 12 = .int .i64 homes.length ∧ s.slots 13 = .int .i64 i ∧
      (homes.take i).any (fun h => decide (h < 0) || decide (32 ≤ h)) = false ∧ (i = 0 ∨ homes.length ≤ 8) ∧ ∃ labs, labs.length = i ∧ ObS h s.hp (s.slots 6) labs ∧ Objs h s.hp labs (ob0 homes []) ∧ Keeps h s.hp,
      fun s => match s.slots 13 with | .int _ i => (homes.length - i).toNat | _ => 0, ?_, ?_⟩
    · refine ⟨0, ?_⟩
      simp only [go_sem, h0, h1, h6, hE, Nat.reduceAdd, Nat.reduceBEq, Nat.reduceEqDiff, Nat.reduceLeDiff, Nat.reduceLT, Nat.reduceSub]
      exact ⟨by omega, rfl, rfl, .inl trivial, [], rfl, .inl ⟨rfl, rfl⟩, Objs.nil _ _ _, Keeps.refl h⟩
    · clear h0 h1 h6 hE
      rintro s ⟨i, hi, h0, h1, h11, h12, h13, hb, hle, labs, hll, hS, hO, hH⟩
      by_cases hlt : i < homes.length
      · have e0 : decide ((i : Int) < homes.length) = true := by simpa using hlt
        have hw : IntKind.i64.wrap ((i : Int) + 1) = ((i + 1 : Nat) : Int) := by
          rcases hle with h2 | h2
          · subst h2; decide
          · exact wrapS (by omega)
        have hdec : (((homes.length : Int) - ((i + 1 : Nat) : Int)).toNat < ((homes.length : Int) - (i : Int)).toNat) := by omega
        have hst : (homes.take (i + 1)).any (fun h => decide (h < 0) || decide (32 ≤ h)) = (decide (homes[i] < 0) || decide (32 ≤ homes[i])) := by
          rw [List.take_succ_eq_append_getElem hlt, List.any_append, hb]; simp
        have hbad : (decide (homes[i] < 0) || decide (32 ≤ homes[i])) = true → checkR homes ns = (0, 1) := fun hc => checkR_bad (by
          simp only [badHomes, Bool.or_eq_true]; right
          exact List.any_eq_true.2 ⟨homes[i], List.getElem_mem hlt, hc⟩)
        have hbad8 : decide ((homes.length : Int) > 8) = true → checkR homes ns = (0, 1) := fun hc => checkR_bad (by
          simp only [badHomes, Bool.or_eq_true]; left
          simp at hc ⊢; omega)
        rcases two (decide (homes[i] < 0)) (decide (homes[i] ≥ 32)) with b1 | ⟨b1, b2⟩ | ⟨b1, b2⟩
        · rcases two (decide (homes[i] ≥ 32)) (decide ((homes.length : Int) > 8)) with b2 | ⟨b2, b3⟩ | ⟨b2, b3⟩
          · cases b3 : decide ((homes.length : Int) > 8)
            · have b2' : decide (32 ≤ homes[i]) = false := b2
              rw [b1, b2'] at hst
              have h8 : homes.length ≤ 8 := by simp at b3; omega
              simp only [go_sem, e0, b1, b2, b3, hw, h0, h1, h11, h12, h13, I_cells, Nat.reduceAdd, Nat.reduceBEq, Nat.reduceEqDiff, Nat.reduceLeDiff, Nat.reduceLT, Nat.reduceSub]
              refine ⟨by omega, hlt, CallX.of (f37_spec homes[i] s.hp _ (fun L L1 L2 h' c0 c1 c2 c3 c4 c5 c6 c7 => ?_))⟩
              have hob : ObAt h' L L1 L2 (ob0 homes [] labs.length) := by
                have hgd : homes.getD i 0 = homes[i] := by rw [List.getD_eq_getElem?_getD, List.getElem?_eq_getElem hlt]; rfl
                unfold ob0
                rw [obOf_nil, hll, hgd]
                exact ⟨c0, c1, c2, by simp⟩
              have hO2 := hO.push (Keeps.toO c7) hob rfl c3 ⟨c4, c5, c6⟩ hH
              have hH2 : Keeps h h' := fun M => by
                rcases hH M with h2 | h2
                · exact .inl h2
                · rcases c7 M with h3 | h3
                  · left; rw [← h2]; exact h3
                  · right; rw [h3, h2]
              rcases hS with ⟨hS1, hS2⟩ | ⟨Lo, hS1, hS2, hS3⟩
              · simp only [go_sem, hS2, e0, b1, b2, b3, hw, h0, h1, h11, h12, h13, I_cells, Nat.reduceAdd, Nat.reduceBEq, Nat.reduceEqDiff, Nat.reduceLeDiff, Nat.reduceLT, Nat.reduceSub]
                refine ⟨by decide, by decide, ⟨i + 1, hlt, rfl, hst, .inr h8, labs ++ [(L, L1, L2)], by simp [hll], .inr ⟨_, rfl, by simp [Hp.alloc, ptA, hS1], hH2.new 13 32⟩, hO2.keep (Keeps.toO ((Keeps.refl h').alloc _ _ _)), hH2.alloc _ _ _⟩, hdec⟩
              · have hLo : h'.con Lo = .arr 1 (labs.map ptA) := by
                  rcases c7 Lo with h2 | h2
                  · rw [hS2] at h2; simp at h2
                  · rw [h2, hS2]
                simp only [go_sem, hS1, hLo, e0, b1, b2, b3, hw, h0, h1, h11, h12, h13, I_cells, Nat.reduceAdd, Nat.reduceBEq, Nat.reduceEqDiff, Nat.reduceLeDiff, Nat.reduceLT, Nat.reduceSub]
                refine ⟨by decide, by omega, by omega, ⟨i + 1, hlt, rfl, hst, .inr h8, labs ++ [(L, L1, L2)], by simp [hll], .inr ⟨_, rfl, by simp [Hp.alloc, Hp.set, ptA], hH2.new 13 32⟩, hO2.keep (KeepsO.arr hLo _ _ _ _), (hH2.set hS3 _).alloc _ _ _⟩, hdec⟩
            · have hbad := hbad8 b3
              simp only [go_sem, hbad, pairV, e0, b1, b2, b3, hw, h0, h1, h11, h12, h13, I_cells, Nat.reduceAdd, Nat.reduceBEq, Nat.reduceEqDiff, Nat.reduceLeDiff, Nat.reduceLT, Nat.reduceSub]
              exact ⟨by omega, hlt, hH⟩
          all_goals
            have b2' : decide (32 ≤ homes[i]) = true := b2
            have hbad := hbad (by rw [b1, b2']; rfl)
            simp only [go_sem, hbad, pairV, e0, b1, b2, hw, h0, h1, h11, h12, h13, I_cells, Nat.reduceAdd, Nat.reduceBEq, Nat.reduceEqDiff, Nat.reduceLeDiff, Nat.reduceLT, Nat.reduceSub]
            exact ⟨by omega, hlt, hH⟩
        all_goals
          have hbad := hbad (by rw [b1]; rfl)
          simp only [go_sem, hbad, pairV, e0, b1, b2, hw, h0, h1, h11, h12, h13, I_cells, Nat.reduceAdd, Nat.reduceBEq, Nat.reduceEqDiff, Nat.reduceLeDiff, Nat.reduceLT, Nat.reduceSub]
          exact ⟨by omega, hlt, hH⟩
      · have e0 : decide ((i : Int) < homes.length) = false := by simpa using hlt
        have : i = homes.length := by omega
        subst this
        rw [List.take_length] at hb
        have hbh : badHomes homes = false := by
          simp only [badHomes, hb, Bool.or_false, decide_eq_false_iff_not]; omega
        simp only [go_sem, e0, h0, h1, h11, h12, h13, Nat.reduceAdd, Nat.reduceBEq, Nat.reduceEqDiff, Nat.reduceLeDiff, Nat.reduceLT, Nat.reduceSub]
        exact ⟨hbh, labs, hll, hS, hO, hH⟩
  clear h0 h1 h6 hE
  rintro s ⟨h0, h1, hbh, labs, hll, hS, hO, hH⟩
  have h8 : homes.length ≤ 8 := by
    simp only [badHomes, Bool.or_eq_false_iff, decide_eq_false_iff_not] at hbh; omega
  simp only [go_sem, h0, h1, Nat.reduceAdd, Nat.reduceBEq, Nat.reduceEqDiff, Nat.reduceLeDiff, Nat.reduceLT, Nat.reduceSub]
  rw [awp_loop]
  refine ⟨fun s => ∃ i : Nat, i ≤ ns.length ∧ s.slots 0 = .l eh 1 (homes.map I) ∧ s.slots 1 = .l ex 6 (ns.map encN) ∧ s.slots 34 = .l ex 6 (ns.map encN) ∧ s.slots 35 = .int .i64 ns.length ∧ s.slots 36 = .int .i64 i ∧
      (∀ j, j < i → goodAt homes ns j = true) ∧ Go.Gh.Good (ns.take i) ∧ ObS h s.hp (s.slots 6) labs ∧ Objs h s.hp labs (ob0 homes (ns.take i)) ∧ Keeps h s.hp,
      fun s => match s.slots 36 with | .int _ i => (ns.length - i).toNat | _ => 0, ?_, ?_⟩
  · refine ⟨0, ?_⟩
    simp only [go_sem, h0, h1, Nat.reduceAdd, Nat.reduceBEq, Nat.reduceEqDiff, Nat.reduceLeDiff, Nat.reduceLT, Nat.reduceSub]
    exact ⟨by omega, rfl, fun j hj => by omega, fun x hx => by simp at hx, hS, hO, hH⟩
  · clear h0 h1 hS hO hH
    rintro s ⟨i, hi, h0, h1, h34, h35, h36, hg, hgood, hS, hO, hH⟩
    by_cases hlt : i < ns.length
    · have e0 : decide ((i : Int) < ns.length) = true := by simpa using hlt
      have hw : IntKind.i64.wrap ((i : Int) + 1) = ((i + 1 : Nat) : Int) := wrapS (by omega)
      have hdec : (((ns.length : Int) - ((i + 1 : Nat) : Int)).toNat < ((ns.length : Int) - (i : Int)).toNat) := by omega
      have hv := hH.var 13 10 (.blk [.int .i64 0, .int .i64 0, .int .i64 0, .int .i64 0, .int .i64 0, .int .i64 0]) (.blk [.int .i64 ns[i].kind, .int .i64 ns[i].obj, .int .i64 ns[i].node, .int .i64 ns[i].num, .int .i64 ns[i].to, .int .i64 ns[i].next])
      have hge := goodAt_eq (homes := homes) hlt
      have hbad : goodAt homes ns i = false → checkR homes ns = ((i : Int), 25) := fun hb => checkR_at hbh hlt hg hb
      have hnext : goodAt homes ns i = true → ∀ j, j < i + 1 → goodAt homes ns j = true := fun hb j hj => by
        rcases Nat.lt_or_ge j i with h1 | h1
        · exact hg j h1
        · have : j = i := by omega
          subst this; exact hb
      cases b1 : decide (ns[i].obj < 0)
      · cases b2 : decide (ns[i].obj ≥ homes.length)
        · have o0 : 0 ≤ ns[i].obj := by simpa using b1
          have o1 : ns[i].obj < homes.length := by simpa using b2
          have hkl : ns[i].obj.toNat < homes.length := by omega
          rcases hS with ⟨hS1, hS2⟩ | ⟨Lo, hS1, hS2, hS3⟩
          · subst hS1; simp at hll; omega
          have hneo := lab_ne (show (s.hp.con Lo).live by rw [hS2]; trivial)
          have hk : ns[i].obj.toNat < labs.length := by omega
          have hv0 := Keeps.var (Keeps.refl s.hp) 13 10 (.blk [.int .i64 0, .int .i64 0, .int .i64 0, .int .i64 0, .int .i64 0, .int .i64 0]) (.blk [.int .i64 ns[i].kind, .int .i64 ns[i].obj, .int .i64 ns[i].node, .int .i64 ns[i].num, .int .i64 ns[i].to, .int .i64 ns[i].next])
          have hOk := (hO.keep (Keeps.toO hv0)).obj _ hk
          have hkI : ((ns[i].obj.toNat : Nat) : Int) = ns[i].obj := by omega
          have hoe : ob0 homes (ns.take i) ns[i].obj.toNat = obOf homes[ns[i].obj.toNat] ns[i].obj (ns.take i) := by
            unfold ob0
            rw [hkI, List.getD_eq_getElem?_getD, List.getElem?_eq_getElem hkl]; rfl
          have hin := homes_in hbh hkl
          have hcan := noteF_can hin.1 hin.2 hgood ns[i]
          have hcg : checkB homes (ns.take i) ns[i] = canB homes[ns[i].obj.toNat] (ns.take i) ns[i] := by
            have e1 : decide (ns[i].obj < homes.length) = true := by simpa using o1
            simp [checkB, o0, e1, hkl]
          have hbd : ∀ m ∈ (ob0 homes (ns.take i) ns[i].obj.toNat).made, 0 ≤ m ∧ m < 2 ^ 61 := by
            intro m hm
            rw [hoe] at hm
            simp only [obOf, List.mem_map] at hm
            obtain ⟨v, _, rfl⟩ := hm
            have := madeN_le (ns.take i) ns[i].obj v
            simp at this
            omega
          simp only [go_sem, hneo, hS1, hS2, hll, e0, b1, b2, hw, h0, h1, h34, h35, h36, encN_cells, Nat.reduceAdd, Nat.reduceBEq, Nat.reduceEqDiff, Nat.reduceLeDiff, Nat.reduceLT, Nat.reduceSub]
          refine ⟨by omega, hlt, o0, hkl, hkl, CallX.of (f38_spec _ _ _ (hO.ne _ hk) _ _ hOk hbd ns[i] _ (fun hn h' hF => ?_) (fun o' hy h' hO' hF => ?_))⟩
          · rw [hoe, hcan] at hn
            have hcf : canB homes[ns[i].obj.toNat] (ns.take i) ns[i] = false := by
              cases hc : canB homes[ns[i].obj.toNat] (ns.take i) ns[i]
              · rfl
              · rw [hc] at hn; simp at hn
            have hr := hbad (by rw [hge, hcg, hcf])
            simp only [go_sem, hr, pairV, e0, b1, b2, hw, h0, h1, h34, h35, h36, Nat.reduceAdd, Nat.reduceBEq, Nat.reduceEqDiff, Nat.reduceLeDiff, Nat.reduceLT, Nat.reduceSub]
            exact hF.keeps hv (fun x hx => hO.new _ hk x hx)
          · rw [hoe, hcan] at hy
            have hct : canB homes[ns[i].obj.toNat] (ns.take i) ns[i] = true := by
              cases hc : canB homes[ns[i].obj.toNat] (ns.take i) ns[i]
              · rw [hc] at hy; simp at hy
              · rfl
            rw [hct] at hy
            simp only [if_true, Option.some.injEq] at hy
            have htk : ns.take (i + 1) = ns.take i ++ [ns[i]] := List.take_succ_eq_append_getElem hlt
            rw [← htk] at hy
            have hgn : Go.Gh.Good (ns.take (i + 1)) := by rw [htk]; exact good_snoc hgood hct
            have hoe' : ob0 homes (ns.take (i + 1)) ns[i].obj.toNat = o' := by
              rw [← hy]
              unfold ob0
              rw [hkI, List.getD_eq_getElem?_getD, List.getElem?_eq_getElem hkl]; rfl
            have hoj : ∀ j, j ≠ ns[i].obj.toNat → ob0 homes (ns.take (i + 1)) j = ob0 homes (ns.take i) j := fun j hj => by
              unfold ob0
              rw [htk]; exact obOf_other _ _ _ _ (by omega)
            have hOn := (hO.keep (Keeps.toO hv0)).step hk hF (by rw [hoe']; exact hO') hoj
            have hLo2 : h'.con Lo = .arr 1 (labs.map ptA) := by
              have g1 : (((s.hp.alloc 13 10 (.blk [.int .i64 0, .int .i64 0, .int .i64 0, .int .i64 0, .int .i64 0, .int .i64 0])).set ⟨13, 10, s.hp.cnt 13 10⟩ (.blk [.int .i64 ns[i].kind, .int .i64 ns[i].obj, .int .i64 ns[i].node, .int .i64 ns[i].num, .int .i64 ns[i].to, .int .i64 ns[i].next]))).con Lo = .arr 1 (labs.map ptA) := by
                simp only [go_sem, hneo, hS2]
              rcases hF Lo with h2 | h2 | h2
              · exact absurd g1 (fun g1 => by
                  simp only [List.mem_cons, List.not_mem_nil, or_false] at h2
                  rcases h2 with h2 | h2 | h2
                  · rw [h2, hOk.con] at g1; simp at g1
                  · rw [h2, hOk.m1] at g1; simp at g1
                  · rw [h2, hOk.m2] at g1; simp at g1)
              · rw [g1] at h2; simp at h2
              · rw [h2]; exact g1
            simp only [go_sem, e0, b1, b2, hw, h0, h1, h34, h35, h36, Nat.reduceAdd, Nat.reduceBEq, Nat.reduceEqDiff, Nat.reduceLeDiff, Nat.reduceLT, Nat.reduceSub]
            exact ⟨⟨i + 1, hlt, rfl, hnext (by rw [hge, hcg, hct]), hgn, .inr ⟨Lo, by simp only [go_sem, hS1, Nat.reduceAdd, Nat.reduceBEq, Nat.reduceEqDiff, Nat.reduceLeDiff, Nat.reduceLT, Nat.reduceSub], hLo2, hS3⟩, hOn, hF.keeps hv (fun x hx => hO.new _ hk x hx)⟩, hdec⟩
        · have hgb : goodAt homes ns i = false := by
            rw [hge]; simp only [checkB]
            have : decide (ns[i].obj < homes.length) = false := by simpa using b2
            rw [this]; simp
          rcases hS with ⟨hS1, hS2⟩ | ⟨Lo, hS1, hS2, hS3⟩
          · subst hS1
            simp at hll
            have b2' : decide (ns[i].obj ≥ ((0 : Nat) : Int)) = true := by rw [hll]; exact b2
            have hr := hbad hgb
            simp only [go_sem, hr, pairV, hS2, e0, b1, b2', hw, h0, h1, h34, h35, h36, encN_cells, Nat.reduceAdd, Nat.reduceBEq, Nat.reduceEqDiff, Nat.reduceLeDiff, Nat.reduceLT, Nat.reduceSub]
            exact ⟨by omega, hlt, hv⟩
          · have hneo := lab_ne (show (s.hp.con Lo).live by rw [hS2]; trivial)
            have hr := hbad hgb
            simp only [go_sem, hr, pairV, hneo, hS1, hS2, hll, e0, b1, b2, hw, h0, h1, h34, h35, h36, encN_cells, Nat.reduceAdd, Nat.reduceBEq, Nat.reduceEqDiff, Nat.reduceLeDiff, Nat.reduceLT, Nat.reduceSub]
            exact ⟨by omega, hlt, hv⟩
      · have hgb : goodAt homes ns i = false := by
          rw [hge]; simp only [checkB]
          have : decide (0 ≤ ns[i].obj) = false := by simpa using b1
          rw [this]; simp
        have hr := hbad hgb
        simp only [go_sem, hr, pairV, e0, b1, hw, h0, h1, h34, h35, h36, encN_cells, Nat.reduceAdd, Nat.reduceBEq, Nat.reduceEqDiff, Nat.reduceLeDiff, Nat.reduceLT, Nat.reduceSub]
        exact ⟨by omega, hlt, hv⟩
    · have e0 : decide ((i : Int) < ns.length) = false := by simpa using hlt
      have : i = ns.length := by omega
      subst this
      have hr := checkR_ok hbh hg
      simp only [go_sem, hr, pairV, e0, h0, h1, h34, h35, h36, Nat.reduceAdd, Nat.reduceBEq, Nat.reduceEqDiff, Nat.reduceLeDiff, Nat.reduceLT, Nat.reduceSub]
      exact hH
end Go.Proofs.Ytmajndgdfmnchaa
/- wakes; GhostChecks. -/
namespace Go.Proofs.Ytmajndgdfmnchaa
open Go Go.T Go.Gh Go.Proofs
@[go_sem] theorem res12 : Try.f12.results = #[.tmp 0] := by kernel_rfl
set_option linter.unusedSimpArgs false
def wakeN : List Note := [⟨1, 0, 0, 1, 0, 0⟩, ⟨2, 0, 1, 0, 0, 1⟩, ⟨4, 0, 0, 1, 0, 0⟩, ⟨3, 0, 0, 1, 0, 0⟩]
theorem wake1 : checkR [1] wakeN = (0, 0) := by decide
theorem wake2 : checkR [1] (wakeN ++ [⟨3, 0, 0, 1, 0, 0⟩]) = (4, 25) := by decide
set_option maxRecDepth 10000 in
theorem f12_spec : PureF Try.prog 12 [] (.bool true) := by
  refine PureF.of_awp mixed (fun _ => []) (fn := Try.f12) (by kernel_rfl) rfl (by kernel_rfl) (by show 0 ≤ _; decide) (by simp [AV.lf]) (fun h => ?_)
  simp only [go_sem, Nat.reduceAdd, Nat.reduceBEq, Nat.reduceEqDiff, Nat.reduceLeDiff, Nat.reduceLT, Nat.reduceSub]
  refine ⟨by decide, by decide, CallX.pure (f13_spec [1] true wakeN true (by decide)) ?_⟩
  simp only [go_sem, wake1, pairV, Nat.reduceAdd, Nat.reduceBEq, Nat.reduceEqDiff, Nat.reduceLeDiff, Nat.reduceLT, Nat.reduceSub]
  repeat refine ⟨by decide, ?_⟩
  refine CallX.frzArg (c := .arr 6 ((wakeN ++ [(⟨3, 0, 0, 1, 0, 0⟩ : Note)]).map encN)) ⟨12, 24, h.cnt 12 24⟩ (by simp [Hp.alloc, Hp.set, wakeN, encN]) ?_
  have e : ∀ c, [AV.l true 1 [.int .i64 1], .os ⟨12, 24, h.cnt 12 24⟩].map (AV.frz ⟨12, 24, h.cnt 12 24⟩ (.arr 6 c)) = [.l true 1 ([1].map I), .l false 6 c] := fun c => by
    simp [AV.frz, AV.frzs, I]
  rw [e]
  refine (f13_spec [1] true (wakeN ++ [⟨3, 0, 0, 1, 0, 0⟩]) false (by decide)).use ?_
  simp only [go_sem, wake2, pairV, beq_self_eq_true, Nat.reduceAdd, Nat.reduceBEq, Nat.reduceEqDiff, Nat.reduceLeDiff, Nat.reduceLT, Nat.reduceSub]
  have k1 := (Keeps.refl h).var 12 21
  refine Keeps.set ((k1 _ _).alloc 12 24 _) ?_ _
  exact (k1 .none .none).new 12 24
end Go.Proofs.Ytmajndgdfmnchaa
/- ghost's Queue: its own functions. -/
namespace Go.Proofs.Ytmajndgdfmnchaa
open Go Go.T Go.Gh Go.Proofs
@[go_sem] theorem res40 : Try.f40.results = #[.tmp 2] := by kernel_rfl
@[go_sem] theorem res42 : Try.f42.results = #[.tmp 4] := by kernel_rfl
@[go_sem] theorem res43 : Try.f43.results = #[.tmp 4] := by kernel_rfl
@[go_sem] theorem res41 : Try.f41.results = #[] := by kernel_rfl
@[go_sem] theorem res16 : Try.f16.results = #[.tmp 6] := by kernel_rfl
set_option linter.unusedSimpArgs false
theorem encN_lfs (ns : List Note) : AV.lfs (ns.map encN) = true := by
  rw [lfs_iff]; intro x hx
  obtain ⟨n, _, rfl⟩ := List.mem_map.1 hx
  simp [encN, AV.lf, AV.lfs]
set_option maxRecDepth 10000 in
theorem f42_spec {g : Nat} {caps : List AV} (p : Note → Bool) (ns : List Note) (ex : Bool) (hlen : ns.length < 2 ^ 61) (h : Hp) (hb : hasBody Try.prog g = true)
    (hf : ∀ x ∈ ns, CallK Try.prog g ([encN x] ++ caps) h (fun r h' => r = .bool (p x) ∧ h' = h)) :
    CallK Try.prog 42 [.l ex 6 (ns.map encN), .fn (.func g) caps] h (fun r h' => r = .int .i64 (idxP p ns) ∧ h' = h) := by
  refine PureAt.of_awp mixed (fun _ => []) (fn := Try.f42) (by kernel_rfl) rfl (by kernel_rfl) (by show 2 ≤ _; decide) (by simp [AV.lf]) ?_
  simp only [go_sem, Nat.reduceAdd, Nat.reduceBEq, Nat.reduceEqDiff, Nat.reduceLeDiff, Nat.reduceLT, Nat.reduceSub]
  rw [awp_loop]
  refine ⟨fun s => ∃ i : Nat, i ≤ ns.length ∧ s.slots 0 = .l ex 6 (ns.map encN) ∧ s.slots 1 = .fn (.func g) caps ∧ s.slots 7 = .int .i64 ns.length ∧ s.slots 8 = .int .i64 i ∧ (∀ x ∈ ns.take i, p x = false) ∧ s.hp = h,
    fun s => match s.slots 8 with | .int _ i => (ns.length - i).toNat | _ => 0, ?_, ?_⟩
  · refine ⟨0, ?_⟩
    simp only [go_sem, Nat.reduceAdd, Nat.reduceBEq, Nat.reduceEqDiff, Nat.reduceLeDiff, Nat.reduceLT, Nat.reduceSub]
    exact ⟨by omega, rfl, fun x hx => by simp at hx⟩
  · rintro s ⟨i, hi, h0, h1, h7, h8, hn, hE⟩
    by_cases hlt : i < ns.length
    · have d0 : decide ((i : Int) < ns.length) = true := by simpa using hlt
      have hw : IntKind.i64.wrap ((i : Int) + 1) = ((i + 1 : Nat) : Int) := wrapS (by omega)
      have hdec : (((ns.length : Int) - ((i + 1 : Nat) : Int)).toNat < ((ns.length : Int) - (i : Int)).toNat) := by omega
      simp only [go_sem, d0, hw, h0, h1, h7, h8, hE, hb, encN_cells, Nat.reduceAdd, Nat.reduceBEq, Nat.reduceEqDiff, Nat.reduceLeDiff, Nat.reduceLT, Nat.reduceSub]
      refine ⟨by omega, hlt, CallX.at (hf ns[i] (List.getElem_mem hlt)) ?_⟩
      cases hp : p ns[i]
      · simp only [go_sem, hp, d0, hw, h0, h1, h7, h8, hE, hb, encN_cells, Nat.reduceAdd, Nat.reduceBEq, Nat.reduceEqDiff, Nat.reduceLeDiff, Nat.reduceLT, Nat.reduceSub]
        refine ⟨⟨i + 1, hlt, rfl, fun x hx => ?_⟩, hdec⟩
        rw [List.take_succ_eq_append_getElem hlt] at hx
        rcases List.mem_append.1 hx with hx | hx
        · exact hn x hx
        · simp at hx; rw [hx]; exact hp
      · have hr := idxP_at p ns i hlt hp hn
        simp only [go_sem, hp, hr, d0, hw, h0, h1, h7, h8, hE, hb, encN_cells, Nat.reduceAdd, Nat.reduceBEq, Nat.reduceEqDiff, Nat.reduceLeDiff, Nat.reduceLT, Nat.reduceSub]
        exact Keeps.refl h
    · have d0 : decide ((i : Int) < ns.length) = false := by simpa using hlt
      have : i = ns.length := by omega
      subst this
      rw [List.take_length] at hn
      have hr := idxP_none p ns hn
      simp only [go_sem, hr, d0, h0, h1, h7, h8, hE, Nat.reduceAdd, Nat.reduceBEq, Nat.reduceEqDiff, Nat.reduceLeDiff, Nat.reduceLT, Nat.reduceSub]
      exact Keeps.refl h
set_option maxRecDepth 10000 in
theorem f43_spec (obj : Int) (a b : Int) (La : Lab) (h : Hp) (ha : h.con La = .blk [.int .i64 a, .int .i64 b]) (x : Note) :
    CallK Try.prog 43 [encN x, .ip [.int .i64 obj], .pt La 0 0 0] h (fun r h' => r = .bool (isNext obj a b x) ∧ h' = h) := by
  refine PureAt.of_awp mixed (fun _ => []) (fn := Try.f43) (by kernel_rfl) rfl (by kernel_rfl) (by show 3 ≤ _; decide) (by simp [AV.lf]) ?_
  have hne := lab_ne (show (h.con La).live by rw [ha]; trivial)
  have hk := (Keeps.refl h).alloc 43 3 (.blk [.int .i64 x.kind, .int .i64 x.obj, .int .i64 x.node, .int .i64 x.num, .int .i64 x.to, .int .i64 x.next])
  rcases two (x.kind == 2) (x.obj == obj) with b1 | ⟨b1, b2⟩ | ⟨b1, b2⟩
  · have hr : isNext obj a b x = false := by simp [isNext, b1]
    simp only [go_sem, hr, b1, hne, ha, encN, Nat.reduceAdd, Nat.reduceBEq, Nat.reduceEqDiff, Nat.reduceLeDiff, Nat.reduceLT, Nat.reduceSub]
    exact hk
  · have hr : isNext obj a b x = false := by simp [isNext, b1, b2]
    simp only [go_sem, hr, b1, b2, hne, ha, encN, Nat.reduceAdd, Nat.reduceBEq, Nat.reduceEqDiff, Nat.reduceLeDiff, Nat.reduceLT, Nat.reduceSub]
    exact hk
  · rcases two (x.node == a) (x.num == b) with b3 | ⟨b3, b4⟩ | ⟨b3, b4⟩
    · have hr : isNext obj a b x = false := by simp [isNext, b1, b2, b3]
      simp only [go_sem, hr, b1, b2, b3, hne, ha, encN, Nat.reduceAdd, Nat.reduceBEq, Nat.reduceEqDiff, Nat.reduceLeDiff, Nat.reduceLT, Nat.reduceSub]
      exact hk
    · have hr : isNext obj a b x = false := by simp [isNext, b1, b2, b3, b4]
      simp only [go_sem, hr, b1, b2, b3, b4, hne, ha, encN, Nat.reduceAdd, Nat.reduceBEq, Nat.reduceEqDiff, Nat.reduceLeDiff, Nat.reduceLT, Nat.reduceSub]
      exact hk
    · have hr : isNext obj a b x = true := by simp [isNext, b1, b2, b3, b4]
      simp only [go_sem, hr, b1, b2, b3, b4, hne, ha, encN, Nat.reduceAdd, Nat.reduceBEq, Nat.reduceEqDiff, Nat.reduceLeDiff, Nat.reduceLT, Nat.reduceSub]
      exact hk

end Go.Proofs.Ytmajndgdfmnchaa
