/- Part of a proof: what functions of the given program compute, and plain laws of it. -/
import Derived.Test.YtocfaflghcgniaaDoorZ8
/- script.Text. -/
namespace Go.Sc
def clearL : List Int → Stp → Stp
  | [], s => s
  | f :: fs, s => clearL fs (setF s f 0)
theorem clearL_app : ∀ (a : List Int) (f : Int) (s : Stp), clearL (a ++ [f]) s = setF (clearL a s) f 0 := by
  intro a
  induction a with
  | nil => intro f s; rfl
  | cons x r ih => intro f s; simp only [List.cons_append, clearL, ih]
/-- What is left of a step when its first j fields are told. -/
def restAt (s : Stp) (j : Nat) : Stp := clearL ((fieldsL s.kind).take j) { s with kind := 0 }
theorem restAt_next (s : Stp) {j : Nat} (h : j < (fieldsL s.kind).length) : restAt s (j + 1) = setF (restAt s j) (fieldsL s.kind)[j] 0 := by
  unfold restAt
  rw [List.take_succ_eq_append_getElem h, clearL_app]
theorem getF_rest {s : Stp} {n : Nat} (hk : s.kind = n) (h0 : n ≠ 0) (h11 : n ≤ 11) {j : Nat} (h : j < (fieldsL s.kind).length) : getF (restAt s j) (fieldsL s.kind)[j] = getF s (fieldsL s.kind)[j] := by
  obtain ⟨k, a, b, c, d⟩ := s
  simp only at hk
  subst hk
  have hl := fieldsL_le (n : Int)
  simp only at h
  have hj : j = 0 ∨ j = 1 ∨ j = 2 := by omega
  rcases kinds h0 h11 with rfl | rfl | rfl | rfl | rfl | rfl | rfl | rfl | rfl | rfl | rfl <;> rcases hj with rfl | rfl | rfl <;> first | rfl | (exfalso; revert h; decide)
theorem rest_zero {s : Stp} {n : Nat} (hk : s.kind = n) (h0 : n ≠ 0) (h11 : n ≤ 11) : restAt s (fieldsL s.kind).length = ⟨0, 0, 0, 0, 0⟩ ↔ made n (toldL s) = s := by
  obtain ⟨k, a, b, c, d⟩ := s
  simp only at hk
  subst hk
  rcases kinds h0 h11 with rfl | rfl | rfl | rfl | rfl | rfl | rfl | rfl | rfl | rfl | rfl
  · show (⟨0, 0, 0, c, d⟩ : Stp) = ⟨0, 0, 0, 0, 0⟩ ↔ (⟨1, a, b, 0, 0⟩ : Stp) = ⟨1, a, b, c, d⟩
    simp [eq_comm]
  · show (⟨0, 0, 0, c, d⟩ : Stp) = ⟨0, 0, 0, 0, 0⟩ ↔ (⟨2, a, b, 0, 0⟩ : Stp) = ⟨2, a, b, c, d⟩
    simp [eq_comm]
  · show (⟨0, 0, 0, c, d⟩ : Stp) = ⟨0, 0, 0, 0, 0⟩ ↔ (⟨3, a, b, 0, 0⟩ : Stp) = ⟨3, a, b, c, d⟩
    simp [eq_comm]
  · show (⟨0, 0, b, c, d⟩ : Stp) = ⟨0, 0, 0, 0, 0⟩ ↔ (⟨4, a, 0, 0, 0⟩ : Stp) = ⟨4, a, b, c, d⟩
    simp [eq_comm]
  · show (⟨0, a, b, 0, d⟩ : Stp) = ⟨0, 0, 0, 0, 0⟩ ↔ (⟨5, 0, 0, c, 0⟩ : Stp) = ⟨5, a, b, c, d⟩
    simp [eq_comm]
  · show (⟨0, a, b, 0, d⟩ : Stp) = ⟨0, 0, 0, 0, 0⟩ ↔ (⟨6, 0, 0, c, 0⟩ : Stp) = ⟨6, a, b, c, d⟩
    simp [eq_comm]
  · show (⟨0, a, b, 0, d⟩ : Stp) = ⟨0, 0, 0, 0, 0⟩ ↔ (⟨7, 0, 0, c, 0⟩ : Stp) = ⟨7, a, b, c, d⟩
    simp [eq_comm]
  · show (⟨0, 0, b, c, d⟩ : Stp) = ⟨0, 0, 0, 0, 0⟩ ↔ (⟨8, a, 0, 0, 0⟩ : Stp) = ⟨8, a, b, c, d⟩
    simp [eq_comm]
  · show (⟨0, 0, b, 0, 0⟩ : Stp) = ⟨0, 0, 0, 0, 0⟩ ↔ (⟨9, a, 0, c, d⟩ : Stp) = ⟨9, a, b, c, d⟩
    simp [eq_comm]
  · show (⟨0, 0, b, c, 0⟩ : Stp) = ⟨0, 0, 0, 0, 0⟩ ↔ (⟨10, a, 0, 0, d⟩ : Stp) = ⟨10, a, b, c, d⟩
    simp [eq_comm]
  · show (⟨0, 0, b, c, d⟩ : Stp) = ⟨0, 0, 0, 0, 0⟩ ↔ (⟨11, a, 0, 0, 0⟩ : Stp) = ⟨11, a, b, c, d⟩
    simp [eq_comm]
theorem rest_zero_start (s : Stp) : restAt s 0 = { s with kind := 0 } := rfl
end Go.Sc
namespace Go.Proofs.YtocfaflghcgniaaDoor
open Go Go.T Go.Proofs Go.Sc Go.RowKit
set_option linter.unusedSimpArgs false
set_option linter.unusedVariables false
set_option maxRecDepth 10000
set_option maxHeartbeats 4000000
theorem stpC_get (s : Stp) (f : Int) : (stpC s).getD (fidx f) .undef = .int .i64 (getF s f) := by
  unfold fidx getF
  by_cases h0 : f = 0
  · simp [h0, stpC]
  by_cases h1 : f = 1
  · simp [h0, h1, stpC]
  by_cases h2 : f = 2 <;> simp [h0, h1, h2, stpC]
theorem cellsEq_zero (a : Stp) : cellsEq (stpC a) [.int .i64 0, .int .i64 0, .int .i64 0, .int .i64 0, .int .i64 0] = some (decide (a = ⟨0, 0, 0, 0, 0⟩)) := cellsEq_stp a ⟨0, 0, 0, 0, 0⟩
theorem stpC_k0 (s : Stp) : (stpC s).set 0 (.int .i64 0) = stpC { s with kind := 0 } := rfl
theorem SbAt.old {q h h' : Hp} {V : Lab} {bs : Bs} (g : SbAt q h V bs) (k : ∀ N, h.con N ≠ .none → h'.con N = h.con N) : SbAt q h' V bs := by
  obtain ⟨hq, ⟨rfl, hV⟩ | ⟨M, hne, hV, hM, hqM, hMf⟩⟩ := g
  · exact ⟨hq, .inl ⟨rfl, by rw [k V (by rw [hV]; simp), hV]⟩⟩
  · exact ⟨hq, .inr ⟨M, hne, by rw [k V (by rw [hV]; simp), hV], by rw [k M (by rw [hM]; simp), hM], hqM, hMf⟩⟩
theorem alloc_old {h : Hp} {f s : Nat} {c : Con} : ∀ N, h.con N ≠ .none → (h.alloc f s c).con N = h.con N := fun N hN => by
  have : N ≠ ⟨f, s, h.cnt f s⟩ := fun e => hN (by rw [e]; exact h.ok _ (by simp))
  simp [Hp.alloc, this]
/-- A variable of Text's is written: the builder stays. -/
theorem SbAt.put {q h : Hp} {V L : Lab} {bs : Bs} (g : SbAt q h V bs) (c : Con) (h1 : L ≠ V) (h2 : L.f = 13) : SbAt q (h.set L c) V bs := by
  obtain ⟨hq, ⟨rfl, hV⟩ | ⟨M, hne, hV, hM, hqM, hMf⟩⟩ := g
  · exact ⟨hq, .inl ⟨rfl, by simp [Hp.set, h1.symm, hV]⟩⟩
  · have : M ≠ L := fun e => by rw [e, h2] at hMf; rcases hMf with h3 | h3 <;> simp at h3
    exact ⟨hq, .inr ⟨M, hne, by simp [Hp.set, h1.symm, hV], by simp [Hp.set, this, hM], hqM, hMf⟩⟩
def T13 : Nat → List Tg := fun id => if id = 9 then [.pure] else []

theorem Text_at (ss : List Stp) (ex : Bool) (hl : ss.length ≤ 8192) (h : Hp) (hp : h.con powL = powC) : CallK Tryd.prog 13 [.l ex 5 (ss.map encP)] h (fun r H => r = textV (textR ss) ∧ H = h) := by
  refine PureAt.of_awp mixed T13 (fn := Tryd.f13) (by kernel_rfl) rfl (by kernel_rfl) (by show 1 ≤ _; decide) (by simp [AV.lf, AV.lfs, textV, strV_lf]) ?_
  repeat' first
    | (with_reducible refine CondX.dec (fun c => ?_) (fun c => ?_)) <;> try (exfalso; omega)
    | (with_reducible refine CondX.beq (fun c => ?_) (fun c => ?_)) <;> try (exfalso; omega)
    | (with_reducible refine CondX.bne (fun c => ?_) (fun c => ?_)) <;> try (exfalso; omega)
    | (with_reducible refine CondX.bool (fun c => ?_) (fun c => ?_)) <;> try (exfalso; omega)
    | simp only [go_sem, I_eq, I_cells, T13, List.length_map, Nat.reduceAdd, Nat.reduceBEq, Nat.reduceEqDiff, Nat.reduceLeDiff, Nat.reduceLT, Nat.reduceSub]
    | simp (disch := omega) only [wrap_in, toNat_succ, toNat_pred, Int.toNat_natCast]
    | with_reducible refine And.intro (by omega) ?_
    | with_reducible refine exI (by omega) ?_
    | fail
  refine awp_countF [(2, 3), (6, 7), (9, 10), (13, 64)] (by kernel_rfl) 13 12 (by kernel_rfl) ss.length (by omega) (fun i s => ∃ said, textR (ss.take i) = some said ∧ SbAt h s.hp ⟨13, 4, h.cnt 13 4⟩ said ∧ Keeps h s.hp ∧ said.length ≤ i * 68) ?_ ?_ ?_ ?_ ?_
  · simp only [go_sem, I_eq, I_cells, T13, Nat.reduceAdd, Nat.reduceBEq, Nat.reduceEqDiff, Nat.reduceLeDiff, Nat.reduceLT, Nat.reduceSub]
  · simp only [go_sem, I_eq, I_cells, T13, Nat.reduceAdd, Nat.reduceBEq, Nat.reduceEqDiff, Nat.reduceLeDiff, Nat.reduceLT, Nat.reduceSub]
  · simp only [go_sem, I_eq, I_cells, T13, Nat.reduceAdd, Nat.reduceBEq, Nat.reduceEqDiff, Nat.reduceLeDiff, Nat.reduceLT, Nat.reduceSub]
    exact ⟨[], rfl, ⟨h.ok _ (by simp), .inl ⟨rfl, by simp only [go_sem, I_eq, I_cells, Nat.reduceAdd, Nat.reduceBEq, Nat.reduceEqDiff, Nat.reduceLeDiff, Nat.reduceLT, Nat.reduceSub]⟩⟩, (Keeps.refl _).alloc _ _ _, by simp⟩
  · rintro i s hlt d2 hw fr g13 g12 ⟨said, hx, gb, gk, hsl⟩
    obtain ⟨st, hst⟩ : ∃ st, ss[i] = st := ⟨_, rfl⟩
    have hnx := textR_next hlt hx
    have hstop : okS st = false → textR ss = none := fun e => textR_stop hlt (by rw [hst]; exact e)
    rw [hst] at hnx
    repeat' first
      | (with_reducible refine CondX.dec (fun c => ?_) (fun c => ?_)) <;> try (exfalso; omega)
      | (with_reducible refine CondX.beq (fun c => ?_) (fun c => ?_)) <;> try (exfalso; omega)
      | (with_reducible refine CondX.bne (fun c => ?_) (fun c => ?_)) <;> try (exfalso; omega)
      | (with_reducible refine CondX.bool (fun c => ?_) (fun c => ?_)) <;> try (exfalso; omega)
      | ((with_reducible refine CallX.id ?_); first | refine CallX.pure (words_spec) ?_)
      | ((with_reducible refine PureX.id ?_); first | refine PureX.of (words_spec) ?_)
      | simp only [go_sem, I_eq, I_cells, T13, fr.at, g13, g12, d2, hw, List.getElem_map, hst, encP_cells, encP_eq, stpC_kind, stpC_len, stpC_all, stpC_take, stpC_zover, Nat.reduceAdd, Nat.reduceBEq, Nat.reduceEqDiff, Nat.reduceLeDiff, Nat.reduceLT, Nat.reduceSub]
      | simp (disch := omega) only [wrap_in, toNat_succ, toNat_pred, Int.toNat_natCast]
      | with_reducible refine And.intro (by omega) ?_
      | with_reducible refine exI (by omega) ?_
      | fail
    · have hk : okS st = false := by
        unfold okS
        have : nameI st.kind = [] := by
          apply Classical.byContradiction
          intro e
          obtain ⟨n, h1, h2, h3⟩ := nameI_some e
          omega
        rw [this]; rfl
      rw [hstop hk]
      exact ⟨rfl, gk.alloc _ _ _⟩
    · have hk : okS st = false := by
        unfold okS
        have : nameI st.kind = [] := by
          apply Classical.byContradiction
          intro e
          obtain ⟨n, h1, h2, h3⟩ := nameI_some e
          omega
        rw [this]; rfl
      rw [hstop hk]
      exact ⟨rfl, gk.alloc _ _ _⟩
    · obtain ⟨n, hkn, hn0, hn11⟩ : ∃ n : Nat, st.kind = n ∧ n ≠ 0 ∧ n ≤ 11 := ⟨st.kind.toNat, by omega, by omega, by omega⟩
      have hnml : names.length = 11 := rfl
      have hnm1 : names[(st.kind - 1).toNat]'(by omega) = nameI st.kind := by
        have h1 := names_at (m := n) (by omega) hn11
        have h2 : (st.kind - 1).toNat = n - 1 := by omega
        have h3 : nameI st.kind = nameOf n := by unfold nameI; rw [hkn, Int.toNat_natCast]
        rw [h3]
        rw [List.getElem?_eq_getElem (by omega)] at h1
        injection h1 with h1
        rw [← h1]; congr 1
      refine ⟨by rw [hnml]; omega, ?_⟩
      rw [hnm1]
      have hnmne : nameI st.kind ≠ [] := by
        unfold nameI
        rw [hkn, Int.toNat_natCast]
        rcases kinds hn0 hn11 with rfl | rfl | rfl | rfl | rfl | rfl | rfl | rfl | rfl | rfl | rfl <;> simp [nameOf]
      have hnl := nameOf_le st.kind.toNat
      rw [show nameOf st.kind.toNat = nameI st.kind from rfl] at hnl
      obtain ⟨nm, hnm⟩ : ∃ nm, nameI st.kind = nm := ⟨_, rfl⟩
      rw [hnm] at hnl hnmne ⊢
      have htl := toldL_len hkn hn0 hn11
      have hfl := fieldsL_le st.kind
      obtain ⟨fs, hfs⟩ : ∃ fs, fieldsL st.kind = fs := ⟨_, rfl⟩
      have hts : toldL st = fs.map (getF st) := by unfold toldL; rw [hfs]
      have hrn := fun j hj => restAt_next st (j := j) hj
      have hgr := fun j hj => getF_rest hkn hn0 hn11 (j := j) hj
      have hrz := rest_zero hkn hn0 hn11
      rw [hfs] at hfl hrz
      simp only [hfs] at hrn hgr
      rw [stpC_k0, ← rest_zero_start]
      obtain ⟨H1, hH1⟩ : ∃ H1, (s.hp.alloc 13 6 (.blk (stpC st))).alloc 13 7 (.blk (stpC (restAt st 0))) = H1 := ⟨_, rfl⟩
      have gk1 : Keeps h H1 := by rw [← hH1]; exact (gk.alloc _ _ _).alloc _ _ _
      have gb1 : SbAt h H1 ⟨13, 4, h.cnt 13 4⟩ said := by rw [← hH1]; exact (gb.old alloc_old).old alloc_old
      have k6 : H1.con ⟨13, 6, s.hp.cnt 13 6⟩ = .blk (stpC st) := by rw [← hH1]; simp only [go_sem, I_eq, I_cells, Nat.reduceAdd, Nat.reduceBEq, Nat.reduceEqDiff, Nat.reduceLeDiff, Nat.reduceLT, Nat.reduceSub]
      have k7 : H1.con ⟨13, 7, s.hp.cnt 13 7⟩ = .blk (stpC (restAt st 0)) := by rw [← hH1]; simp only [go_sem, I_eq, I_cells, Nat.reduceAdd, Nat.reduceBEq, Nat.reduceEqDiff, Nat.reduceLeDiff, Nat.reduceLT, Nat.reduceSub]
      rw [hH1]
      refine CallX.of ((WriteString_spec h H1 _ said nm gk1 gb1 hnmne (by omega)).mono ?_)
      rintro r H2 ⟨gb2, gk2, old2⟩
      have q6 : H2.con ⟨13, 6, s.hp.cnt 13 6⟩ = .blk (stpC st) := by rw [old2 _ (by simp) (by simp) (by simp) (by rw [k6]; simp), k6]
      have q7 : H2.con ⟨13, 7, s.hp.cnt 13 7⟩ = .blk (stpC (restAt st 0)) := by rw [old2 _ (by simp) (by simp) (by simp) (by rw [k7]; simp), k7]
      clear k6 k7 gk1 gb1 old2 hH1
      repeat' first
        | (with_reducible refine CondX.dec (fun c => ?_) (fun c => ?_)) <;> try (exfalso; omega)
        | (with_reducible refine CondX.beq (fun c => ?_) (fun c => ?_)) <;> try (exfalso; omega)
        | (with_reducible refine CondX.bne (fun c => ?_) (fun c => ?_)) <;> try (exfalso; omega)
        | (with_reducible refine CondX.bool (fun c => ?_) (fun c => ?_)) <;> try (exfalso; omega)
        | ((with_reducible refine CallX.id ?_); first | refine CallX.pure (fields_spec _) ?_)
        | simp only [go_sem, I_eq, I_cells, T13, fr.at, q6, q7, stpC_kind, hfs, stpC_len, Nat.reduceAdd, Nat.reduceBEq, Nat.reduceEqDiff, Nat.reduceLeDiff, Nat.reduceLT, Nat.reduceSub]
        | simp (disch := omega) only [wrap_in, toNat_succ, toNat_pred, Int.toNat_natCast]
        | with_reducible refine And.intro (by omega) ?_
        | with_reducible refine exI (by omega) ?_
        | fail
      refine awp_countF [(2, 3), (9, 10), (38, 59)] (by kernel_rfl) 38 37 (by kernel_rfl) fs.length (by omega) (fun j u => SbAt h u.hp ⟨13, 4, h.cnt 13 4⟩ (said ++ nm ++ sayN ((fs.take j).map (getF st))) ∧ Keeps h u.hp ∧ u.hp.con ⟨13, 6, s.hp.cnt 13 6⟩ = .blk (stpC st) ∧ u.hp.con ⟨13, 7, s.hp.cnt 13 7⟩ = .blk (stpC (restAt st j)) ∧ ((fs.take j).map (getF st)).all inR = true) ?_ ?_ ?_ ?_ ?_
      · simp only [go_sem, I_eq, I_cells, List.length_map, Nat.reduceAdd, Nat.reduceBEq, Nat.reduceEqDiff, Nat.reduceLeDiff, Nat.reduceLT, Nat.reduceSub]
      · simp only [go_sem, I_eq, I_cells, List.length_map, Nat.reduceAdd, Nat.reduceBEq, Nat.reduceEqDiff, Nat.reduceLeDiff, Nat.reduceLT, Nat.reduceSub]
      · simp only [go_sem, I_eq, I_cells, Nat.reduceAdd, Nat.reduceBEq, Nat.reduceEqDiff, Nat.reduceLeDiff, Nat.reduceLT, Nat.reduceSub]
        refine ⟨?_, gk2, q6, q7⟩
        simpa [sayN] using gb2
      · clear gb2 gk2 q6 q7
        rintro j u hjl d3 hw3 fr2 g38 g37 ⟨gb2, gk2, q6, q7, hal⟩
        have hsn := sayN_len hal
        rw [List.length_map, List.length_take] at hsn
        have htk : (fs.take (j + 1)).map (getF st) = (fs.take j).map (getF st) ++ [getF st fs[j]] := by rw [List.take_succ_eq_append_getElem hjl, List.map_append]; rfl
        have hfi := fidx_le fs[j]
        have hbad : inR (getF st fs[j]) = false → okS st = false := fun e => by
          unfold okS
          have : (toldL st).all inR = false := List.all_eq_false.2 ⟨getF st fs[j], by rw [hts]; exact List.mem_map_of_mem (List.getElem_mem hjl), by rw [e]; simp⟩
          rw [this]; simp
        have hg := hgr j hjl
        have hr := hrn j hjl
        have hpow : u.hp.con powL = powC := gk2.cons hp (by simp [powC])
        repeat' first
          | (with_reducible refine CondX.dec (fun c => ?_) (fun c => ?_)) <;> try (exfalso; omega)
          | (with_reducible refine CondX.beq (fun c => ?_) (fun c => ?_)) <;> try (exfalso; omega)
          | (with_reducible refine CondX.bne (fun c => ?_) (fun c => ?_)) <;> try (exfalso; omega)
          | (with_reducible refine CondX.bool (fun c => ?_) (fun c => ?_)) <;> try (exfalso; omega)
          | ((with_reducible refine CallX.id ?_); first | refine CallX.at (at_spec _ _ _) ?_)
          | simp only [go_sem, I_eq, I_cells, T13, fr2.at, fr.at, g38, g37, d3, hw3, q6, q7, List.getElem_map, I_cells, stpC_get, stpC_len, hg, Nat.reduceAdd, Nat.reduceBEq, Nat.reduceEqDiff, Nat.reduceLeDiff, Nat.reduceLT, Nat.reduceSub]
          | simp (disch := omega) only [wrap_in, toNat_succ, toNat_pred, Int.toNat_natCast]
          | with_reducible refine And.intro (by omega) ?_
          | with_reducible refine exI (by omega) ?_
          | fail
        · rw [hstop (hbad (by unfold inR; rw [Bool.and_eq_false_iff]; left; exact decide_eq_false (by omega)))]
          exact ⟨rfl, gk2⟩
        · rw [hstop (hbad (by unfold inR; rw [Bool.and_eq_false_iff]; right; exact decide_eq_false (by omega)))]
          exact ⟨rfl, gk2⟩
        · rename_i c1
          have hin : inR (getF st fs[j]) = true := by unfold inR; rw [Bool.and_eq_true]; exact ⟨decide_eq_true (by omega), decide_eq_true (by omega)⟩
          have hil := itoa_len (x := getF st fs[j]) (by omega) (by omega)
          refine CallX.at (Itoa_at _ (by omega) (by omega) _ hpow) ?_
          repeat' first
            | (with_reducible refine CondX.dec (fun c => ?_) (fun c => ?_)) <;> try (exfalso; omega)
            | (with_reducible refine CondX.beq (fun c => ?_) (fun c => ?_)) <;> try (exfalso; omega)
            | (with_reducible refine CondX.bne (fun c => ?_) (fun c => ?_)) <;> try (exfalso; omega)
            | (with_reducible refine CondX.bool (fun c => ?_) (fun c => ?_)) <;> try (exfalso; omega)
            | simp only [go_sem, I_eq, I_cells, T13, fr2.at, fr.at, Nat.reduceAdd, Nat.reduceBEq, Nat.reduceEqDiff, Nat.reduceLeDiff, Nat.reduceLT, Nat.reduceSub]
            | simp (disch := omega) only [wrap_in, toNat_succ, toNat_pred, Int.toNat_natCast]
            | with_reducible refine And.intro (by omega) ?_
            | with_reducible refine exI (by omega) ?_
            | fail
          refine CallX.of ((WriteString_spec h u.hp _ _ ([32] ++ Lib.itoa (getF st fs[j])) gk2 gb2 (by simp) (by simp only [List.length_append, List.length_singleton]; omega)).mono ?_)
          rintro r H2 ⟨gb3, gk3, old3⟩
          have d6 : H2.con ⟨13, 6, s.hp.cnt 13 6⟩ = .blk (stpC st) := by rw [old3 _ (by simp) (by simp) (by simp) (by rw [q6]; simp), q6]
          have d7 : H2.con ⟨13, 7, s.hp.cnt 13 7⟩ = .blk (stpC (restAt st j)) := by rw [old3 _ (by simp) (by simp) (by simp) (by rw [q7]; simp), q7]
          repeat' first
            | (with_reducible refine CondX.dec (fun c => ?_) (fun c => ?_)) <;> try (exfalso; omega)
            | (with_reducible refine CondX.beq (fun c => ?_) (fun c => ?_)) <;> try (exfalso; omega)
            | (with_reducible refine CondX.bne (fun c => ?_) (fun c => ?_)) <;> try (exfalso; omega)
            | (with_reducible refine CondX.bool (fun c => ?_) (fun c => ?_)) <;> try (exfalso; omega)
            | ((with_reducible refine CallX.id ?_); first | refine CallX.at (at_spec _ _ _) ?_)
            | simp only [go_sem, I_eq, I_cells, T13, fr2.at, fr.at, d6, d7, hw3, g38, g37, stpC_len, Nat.reduceAdd, Nat.reduceBEq, Nat.reduceEqDiff, Nat.reduceLeDiff, Nat.reduceLT, Nat.reduceSub]
            | simp (disch := omega) only [wrap_in, toNat_succ, toNat_pred, Int.toNat_natCast]
            | with_reducible refine And.intro (by omega) ?_
            | with_reducible refine exI (by omega) ?_
            | fail
          rw [stpC_set, ← hr, htk, sayN_app, sayN_one, List.all_append, hal]
          refine ⟨?_, gk3.set (gk.new _ _) _, rfl, by simp [hin]⟩
          rw [← List.append_assoc]
          exact gb3.put _ (by simp) rfl
      · clear gb2 gk2 q6 q7
        rintro u d3 fr2 g38 g37 ⟨gb2, gk2, q6, q7, hal⟩
        rw [List.take_length, ← hts] at gb2 hal
        have hsn := sayN_len hal
        repeat' first
          | (with_reducible refine CondX.dec (fun c => ?_) (fun c => ?_)) <;> try (exfalso; omega)
          | (with_reducible refine CondX.beq (fun c => ?_) (fun c => ?_)) <;> try (exfalso; omega)
          | (with_reducible refine CondX.bne (fun c => ?_) (fun c => ?_)) <;> try (exfalso; omega)
          | (with_reducible refine CondX.bool (fun c => ?_) (fun c => ?_)) <;> try (exfalso; omega)
          | simp only [go_sem, I_eq, I_cells, T13, fr2.at, fr.at, g13, hw, g38, g37, d3, q6, q7, stpC_len, stpC_take, encP_eq, cellsEq_zero, Nat.reduceAdd, Nat.reduceBEq, Nat.reduceEqDiff, Nat.reduceLeDiff, Nat.reduceLT, Nat.reduceSub]
          | simp (disch := omega) only [wrap_in, toNat_succ, toNat_pred, Int.toNat_natCast]
          | with_reducible refine And.intro (by omega) ?_
          | with_reducible refine exI (by omega) ?_
          | fail
        · have hmd := hrz.1 c
          have hok : okS st = true := by
            unfold okS
            rw [hnm, hal, hkn, Int.toNat_natCast, decide_eq_true hmd]
            have : nm.isEmpty = false := by rw [List.isEmpty_eq_false_iff]; exact hnmne
            rw [this]; rfl
          rw [if_pos hok] at hnx
          have hss : sayS st = nm ++ sayN (toldL st) ++ [10] := by unfold sayS; rw [hnm]
          have hlen := sayS_len (s := st) hal
          rw [hss, List.length_append, List.length_append, List.length_singleton] at hlen
          have hne : said ++ nm ++ sayN (toldL st) ≠ [] := by simp [hnmne]
          refine CallX.of ((WriteByte_spec h u.hp _ _ 10 10 rfl gk2 gb2 hne (by simp only [List.length_append]; omega)).mono ?_)
          rintro r H3 ⟨gb3, gk3, _⟩
          repeat' first
            | (with_reducible refine CondX.dec (fun c => ?_) (fun c => ?_)) <;> try (exfalso; omega)
            | (with_reducible refine CondX.beq (fun c => ?_) (fun c => ?_)) <;> try (exfalso; omega)
            | (with_reducible refine CondX.bne (fun c => ?_) (fun c => ?_)) <;> try (exfalso; omega)
            | (with_reducible refine CondX.bool (fun c => ?_) (fun c => ?_)) <;> try (exfalso; omega)
            | simp only [go_sem, I_eq, I_cells, T13, fr2.at, fr.at, g13, hw, Nat.reduceAdd, Nat.reduceBEq, Nat.reduceEqDiff, Nat.reduceLeDiff, Nat.reduceLT, Nat.reduceSub]
            | simp (disch := omega) only [wrap_in, toNat_succ, toNat_pred, Int.toNat_natCast]
            | with_reducible refine And.intro (by omega) ?_
            | with_reducible refine exI (by omega) ?_
            | fail
          refine ⟨said ++ sayS st, hnx, ?_, gk3, ?_⟩
          · rw [hss, ← List.append_assoc, ← List.append_assoc]; exact gb3
          · rw [hss]; simp only [List.length_append, List.length_singleton]; omega
        · have hok : okS st = false := by
            unfold okS
            rw [hkn, Int.toNat_natCast, decide_eq_false (fun e => c (hrz.2 e)), Bool.and_false]
          rw [hstop hok]
          exact ⟨rfl, gk2⟩
  · rintro s d2 fr g13 g12 ⟨said, hx, gb, gk, hsl⟩
    rw [List.take_length] at hx
    repeat' first
      | (with_reducible refine CondX.dec (fun c => ?_) (fun c => ?_)) <;> try (exfalso; omega)
      | (with_reducible refine CondX.beq (fun c => ?_) (fun c => ?_)) <;> try (exfalso; omega)
      | (with_reducible refine CondX.bne (fun c => ?_) (fun c => ?_)) <;> try (exfalso; omega)
      | (with_reducible refine CondX.bool (fun c => ?_) (fun c => ?_)) <;> try (exfalso; omega)
      | simp only [go_sem, I_eq, I_cells, T13, fr.at, g13, g12, d2, Nat.reduceAdd, Nat.reduceBEq, Nat.reduceEqDiff, Nat.reduceLeDiff, Nat.reduceLT, Nat.reduceSub]
      | simp (disch := omega) only [wrap_in, toNat_succ, toNat_pred, Int.toNat_natCast]
      | with_reducible refine And.intro (by omega) ?_
      | with_reducible refine exI (by omega) ?_
      | fail
    refine CallX.of ((String_spec h _ _ said gk gb).mono ?_)
    rintro r H ⟨rfl, gk2⟩
    repeat' first
      | (with_reducible refine CondX.dec (fun c => ?_) (fun c => ?_)) <;> try (exfalso; omega)
      | (with_reducible refine CondX.beq (fun c => ?_) (fun c => ?_)) <;> try (exfalso; omega)
      | (with_reducible refine CondX.bne (fun c => ?_) (fun c => ?_)) <;> try (exfalso; omega)
      | (with_reducible refine CondX.bool (fun c => ?_) (fun c => ?_)) <;> try (exfalso; omega)
      | simp only [go_sem, I_eq, I_cells, Nat.reduceAdd, Nat.reduceBEq, Nat.reduceEqDiff, Nat.reduceLeDiff, Nat.reduceLT, Nat.reduceSub]
      | simp (disch := omega) only [wrap_in, toNat_succ, toNat_pred, Int.toNat_natCast]
      | with_reducible refine And.intro (by omega) ?_
      | with_reducible refine exI (by omega) ?_
      | fail
    rw [hx]
    exact ⟨rfl, gk2⟩
end Go.Proofs.YtocfaflghcgniaaDoor
/- fletchlaw21: sameSteps and wakes. -/
namespace Go.Proofs.YtocfaflghcgniaaDoor
open Go Go.T Go.Proofs Go.Sc Go.RowKit
set_option linter.unusedSimpArgs false
set_option linter.unusedVariables false
set_option maxRecDepth 10000
set_option maxHeartbeats 4000000
def T12 : Nat → List Tg := fun id => []
theorem same_spec (a b : List Stp) (ex ex' : Bool) (ha : a.length < 2 ^ 60) (hb : b.length < 2 ^ 60) : PureF Tryd.prog 12 [.l ex 5 (a.map encP), .l ex' 5 (b.map encP)] (.bool (decide (a = b))) := by
  refine PureF.of_awp mixed T12 (fn := Tryd.f12) (by kernel_rfl) rfl (by kernel_rfl) (by show 2 ≤ _; decide) (by simp [AV.lf]) (fun h => ?_)
  repeat' first
    | (with_reducible refine CondX.dec (fun c => ?_) (fun c => ?_)) <;> try (exfalso; omega)
    | (with_reducible refine CondX.beq (fun c => ?_) (fun c => ?_)) <;> try (exfalso; omega)
    | (with_reducible refine CondX.bne (fun c => ?_) (fun c => ?_)) <;> try (exfalso; omega)
    | (with_reducible refine CondX.bool (fun c => ?_) (fun c => ?_)) <;> try (exfalso; omega)
    | simp only [go_sem, I_eq, I_cells, T12, List.length_map, Nat.reduceAdd, Nat.reduceBEq, Nat.reduceEqDiff, Nat.reduceLeDiff, Nat.reduceLT, Nat.reduceSub]
    | simp (disch := omega) only [wrap_in, toNat_succ, toNat_pred, Int.toNat_natCast]
    | with_reducible refine And.intro (by omega) ?_
    | with_reducible refine exI (by omega) ?_
    | fail
  · have : a ≠ b := fun e => c (by rw [e])
    rw [decide_eq_false this]
    exact ⟨rfl, Keeps.refl _⟩
  have hl : a.length = b.length := by omega
  refine awp_countF [(4, 5), (13, 25)] (by kernel_rfl) 13 12 (by kernel_rfl) a.length (by omega) (fun i s => a.take i = b.take i ∧ s.hp = h) ?_ ?_ ?_ ?_ ?_
  · simp only [go_sem, I_eq, I_cells, List.length_map, Nat.reduceAdd, Nat.reduceBEq, Nat.reduceEqDiff, Nat.reduceLeDiff, Nat.reduceLT, Nat.reduceSub]
  · simp only [go_sem, I_eq, I_cells, List.length_map, Nat.reduceAdd, Nat.reduceBEq, Nat.reduceEqDiff, Nat.reduceLeDiff, Nat.reduceLT, Nat.reduceSub]
  · simp only [go_sem, I_eq, I_cells, Nat.reduceAdd, Nat.reduceBEq, Nat.reduceEqDiff, Nat.reduceLeDiff, Nat.reduceLT, Nat.reduceSub]
  · rintro i s hlt d2 hw fr g13 g12 ⟨he, hH⟩
    have hlt2 : i < b.length := by omega
    repeat' first
      | (with_reducible refine CondX.dec (fun c => ?_) (fun c => ?_)) <;> try (exfalso; omega)
      | (with_reducible refine CondX.beq (fun c => ?_) (fun c => ?_)) <;> try (exfalso; omega)
      | (with_reducible refine CondX.bne (fun c => ?_) (fun c => ?_)) <;> try (exfalso; omega)
      | (with_reducible refine CondX.bool (fun c => ?_) (fun c => ?_)) <;> try (exfalso; omega)
      | simp only [go_sem, I_eq, I_cells, T12, fr.at, g13, g12, d2, hw, hH, List.getElem_map, encP_cells, encP_eq, stpC_len, stpC_take, cellsEq_stp, Nat.reduceAdd, Nat.reduceBEq, Nat.reduceEqDiff, Nat.reduceLeDiff, Nat.reduceLT, Nat.reduceSub]
      | simp (disch := omega) only [wrap_in, toNat_succ, toNat_pred, Int.toNat_natCast]
      | with_reducible refine And.intro (by omega) ?_
      | with_reducible refine exI (by omega) ?_
      | fail
    · rw [List.take_succ_eq_append_getElem hlt, List.take_succ_eq_append_getElem hlt2, he, c]
    · have : a ≠ b := fun e => c (by subst e; rfl)
      rw [decide_eq_false this]
      exact ⟨rfl, Keeps.refl _⟩
  · rintro s d2 fr g13 g12 ⟨he, hH⟩
    rw [List.take_length, hl, List.take_length] at he
    repeat' first
      | (with_reducible refine CondX.dec (fun c => ?_) (fun c => ?_)) <;> try (exfalso; omega)
      | (with_reducible refine CondX.beq (fun c => ?_) (fun c => ?_)) <;> try (exfalso; omega)
      | (with_reducible refine CondX.bne (fun c => ?_) (fun c => ?_)) <;> try (exfalso; omega)
      | (with_reducible refine CondX.bool (fun c => ?_) (fun c => ?_)) <;> try (exfalso; omega)
      | simp only [go_sem, I_eq, I_cells, T12, fr.at, g13, g12, d2, hH, Nat.reduceAdd, Nat.reduceBEq, Nat.reduceEqDiff, Nat.reduceLeDiff, Nat.reduceLT, Nat.reduceSub]
      | simp (disch := omega) only [wrap_in, toNat_succ, toNat_pred, Int.toNat_natCast]
      | with_reducible refine And.intro (by omega) ?_
      | with_reducible refine exI (by omega) ?_
      | fail
    rw [decide_eq_true he]
    exact ⟨rfl, Keeps.refl _⟩
section
variable {h H : Hp} {v : AV} {a b : List Stp} {ex : Bool} {K : AV → Hp → Prop} {u : Tok K}
theorem same_ol (ga : Acc h H 5 v (a.map encP)) (ha : a.length < 2 ^ 60) (hb : b.length < 2 ^ 60) (hk : K (.bool (decide (a = b))) H) : CallX Tryd.prog 12 [v, .l ex 5 (b.map encP)] H K u := by
  obtain ⟨Ls, hLs⟩ := ga.lend
  have := hLs [] [.l ex 5 (b.map encP)] (by simp [AV.lfs]) (by simp [AV.lfs, AV.lf, P_lfs])
  exact CallX.of (CallK.lendL Ls (same_spec a b false ex ha hb) this (by simp [AV.sn]) hk)
theorem lend2 {h0 : Hp} {v' : AV} {sz : Nat} {xs ys : List AV} (g1 : Acc h H sz v xs) (g2 : Acc h0 H sz v' ys) (hx : AV.lfs xs = true) (hd : ∀ L, v = .os L → v' = .os L → False) : ∃ Ls, LeF (lendA Ls H [v, v']) [.l false sz xs, .l false sz ys] := by
  have l0 : Le (.l true 0 []) (.l false sz []) := Le.l0
  cases g1 with
  | nil =>
    cases g2 with
    | nil => exact ⟨[], .cons l0 (.cons l0 .nil)⟩
    | own L2 _ hc2 hn2 =>
      refine ⟨[L2], ?_⟩
      simp only [lendA, hc2, List.map_cons, List.map_nil, AV.frz, AV.frzs, if_true]
      exact .cons l0 (.cons (Le.refl _) .nil)
  | own L1 _ hc1 hn1 =>
    cases g2 with
    | nil =>
      refine ⟨[L1], ?_⟩
      simp only [lendA, hc1, List.map_cons, List.map_nil, AV.frz, AV.frzs, if_true]
      exact .cons (Le.refl _) (.cons l0 .nil)
    | own L2 _ hc2 hn2 =>
      have hne : L2 ≠ L1 := fun e => hd L1 rfl (by rw [e])
      refine ⟨[L1, L2], ?_⟩
      have hc2' : (H.set L1 .none).con L2 = .arr sz ys := by rw [set_con_ne hne, hc2]
      have hfz : AV.frz L2 (.arr sz ys) (.l false sz xs) = .l false sz xs := frz_lf _ _ _ (by simp [AV.lf, hx])
      simp only [lendA, hc1, hc2', List.map_cons, List.map_nil, AV.frz, if_true, hne, if_false] at hfz ⊢
      rw [hfz]
      exact .cons (Le.refl _) (.cons (Le.refl _) .nil)
theorem same_oo {h0 : Hp} {v' : AV} (ga : Acc h H 5 v (a.map encP)) (gb : Acc h0 H 5 v' (b.map encP)) (hd : ∀ L, v = .os L → v' = .os L → False) (ha : a.length < 2 ^ 60) (hb : b.length < 2 ^ 60) (hk : K (.bool (decide (a = b))) H) : CallX Tryd.prog 12 [v, v'] H K u := by
  obtain ⟨Ls, hLs⟩ := lend2 ga gb (P_lfs _) hd
  exact CallX.of (CallK.lendL Ls (same_spec a b false false ha hb) hLs (by simp [AV.sn]) hk)
end
theorem itoa_nat (n : Nat) : Lib.itoa (n : Int) = Lib.decDigits n := by unfold Lib.itoa; rw [if_neg (by omega), Int.toNat_natCast]
theorem dec_1 {u : Nat} (h : u < 10) : Lib.decDigits u = [UInt8.ofNat (48 + u)] := by rw [Lib.decDigits, dif_pos h]
theorem wakes_at (h : Hp) (hp : h.con powL = powC) : CallK Tryd.prog 9 [] h (fun r H => r = .bool true ∧ H = h) := by
  have e1 : parse 65536 4096 [97, 99, 113, 117, 105, 114, 101, 32, 48, 32, 49, 10, 32, 32, 10, 32, 97, 114, 109, 32, 32, 50, 32, 45, 49, 32, 57] = ([⟨1, 0, 1, 0, 0⟩, ⟨9, 2, 0, -1, 9⟩], 0, 0) := by kernel_rfl
  have e2 : textR [⟨10, 3, 0, 0, 2⟩] = some [111, 102, 102, 32, 51, 32, 50, 10] := by
    have h1 : okS ⟨10, 3, 0, 0, 2⟩ = true := by kernel_rfl
    have h2 : sayS ⟨10, 3, 0, 0, 2⟩ = [111, 102, 102, 32, 51, 32, 50, 10] := by
      have : toldL ⟨10, 3, 0, 0, 2⟩ = [3, 2] := by kernel_rfl
      unfold sayS
      rw [this]
      have i3 : Lib.itoa 3 = [51] := by rw [show (3 : Int) = ((3 : Nat) : Int) from rfl, itoa_nat, dec_1 (by omega)]; rfl
      have i2 : Lib.itoa 2 = [50] := by rw [show (2 : Int) = ((2 : Nat) : Int) from rfl, itoa_nat, dec_1 (by omega)]; rfl
      simp only [sayN, List.flatMap_cons, List.flatMap_nil, i3, i2]
      rfl
    rw [textR_cons, if_pos h1, h2]; rfl
  refine PureAt.of_awp mixed (fun _ => []) (fn := Tryd.f9) (by kernel_rfl) rfl (by kernel_rfl) (by show 0 ≤ _; decide) (by simp [AV.lf]) ?_
  repeat' first
    | (with_reducible refine CondX.dec (fun c => ?_) (fun c => ?_)) <;> try (exfalso; omega)
    | (with_reducible refine CondX.beq (fun c => ?_) (fun c => ?_)) <;> try (exfalso; omega)
    | (with_reducible refine CondX.bne (fun c => ?_) (fun c => ?_)) <;> try (exfalso; omega)
    | (with_reducible refine CondX.bool (fun c => ?_) (fun c => ?_)) <;> try (exfalso; omega)
    | simp only [go_sem, I_eq, I_cells, Nat.reduceAdd, Nat.reduceBEq, Nat.reduceEqDiff, Nat.reduceLeDiff, Nat.reduceLT, Nat.reduceSub]
    | simp (disch := omega) only [wrap_in, toNat_succ, toNat_pred, Int.toNat_natCast]
    | with_reducible refine And.intro (by omega) ?_
    | with_reducible refine exI (by omega) ?_
    | fail
  refine CallX.of ((Parse_spec _ h).mono ?_)
  rw [e1]
  rintro r H ⟨v, rfl, ga, gk⟩
  repeat' first
    | (with_reducible refine CondX.dec (fun c => ?_) (fun c => ?_)) <;> try (exfalso; omega)
    | (with_reducible refine CondX.beq (fun c => ?_) (fun c => ?_)) <;> try (exfalso; omega)
    | (with_reducible refine CondX.bne (fun c => ?_) (fun c => ?_)) <;> try (exfalso; omega)
    | (with_reducible refine CondX.bool (fun c => ?_) (fun c => ?_)) <;> try (exfalso; omega)
    | simp only [go_sem, I_eq, I_cells, Nat.reduceAdd, Nat.reduceBEq, Nat.reduceEqDiff, Nat.reduceLeDiff, Nat.reduceLT, Nat.reduceSub]
    | simp (disch := omega) only [wrap_in, toNat_succ, toNat_pred, Int.toNat_natCast]
    | with_reducible refine And.intro (by omega) ?_
    | with_reducible refine exI (by omega) ?_
    | fail
  have ht := Text_at [⟨10, 3, 0, 0, 2⟩] true (by decide) H (gk.cons hp (by simp [powC]))
  rw [e2] at ht
  refine CallX.at ht ?_
  repeat' first
    | (with_reducible refine CondX.dec (fun c => ?_) (fun c => ?_)) <;> try (exfalso; omega)
    | (with_reducible refine CondX.beq (fun c => ?_) (fun c => ?_)) <;> try (exfalso; omega)
    | (with_reducible refine CondX.bne (fun c => ?_) (fun c => ?_)) <;> try (exfalso; omega)
    | (with_reducible refine CondX.bool (fun c => ?_) (fun c => ?_)) <;> try (exfalso; omega)
    | simp only [go_sem, I_eq, I_cells, textV, Option.getD_some, Option.isSome_some, if_true, Nat.reduceAdd, Nat.reduceBEq, Nat.reduceEqDiff, Nat.reduceLeDiff, Nat.reduceLT, Nat.reduceSub]
    | simp (disch := omega) only [wrap_in, toNat_succ, toNat_pred, Int.toNat_natCast]
    | with_reducible refine And.intro (by omega) ?_
    | with_reducible refine exI (by omega) ?_
    | fail
  refine same_ol (a := [⟨1, 0, 1, 0, 0⟩, ⟨9, 2, 0, -1, 9⟩]) (b := [⟨1, 0, 1, 0, 0⟩, ⟨9, 2, 0, -1, 9⟩]) ga (by decide) (by decide) ?_
  rw [decide_eq_true rfl]
  repeat' first
    | (with_reducible refine CondX.dec (fun c => ?_) (fun c => ?_)) <;> try (exfalso; omega)
    | (with_reducible refine CondX.beq (fun c => ?_) (fun c => ?_)) <;> try (exfalso; omega)
    | (with_reducible refine CondX.bne (fun c => ?_) (fun c => ?_)) <;> try (exfalso; omega)
    | (with_reducible refine CondX.bool (fun c => ?_) (fun c => ?_)) <;> try (exfalso; omega)
    | simp only [go_sem, I_eq, I_cells, textV, Option.getD_some, Option.isSome_some, if_true, beq_self_eq_true, Nat.reduceAdd, Nat.reduceBEq, Nat.reduceEqDiff, Nat.reduceLeDiff, Nat.reduceLT, Nat.reduceSub]
    | simp (disch := omega) only [wrap_in, toNat_succ, toNat_pred, Int.toNat_natCast]
    | with_reducible refine And.intro (by omega) ?_
    | with_reducible refine exI (by omega) ?_
    | fail
  exact gk
end Go.Proofs.YtocfaflghcgniaaDoor
/- ScriptParses and ScriptTells. -/
namespace Go.Sc
theorem parseL_len (mx : Nat) : ∀ (ls : List Bs) (n : Nat) (out : List Stp), out.length ≤ mx → (parseL mx ls n out).1.length ≤ mx := by
  intro ls
  induction ls with
  | nil => intro n out h; exact h
  | cons l r ih =>
    intro n out h
    rw [parseL_cons]
    split
    · exact ih _ _ h
    · cases lineR (words l) with
      | none => simp
      | some s =>
        simp only
        split
        · simp
        · exact ih _ _ (by simp; omega)
theorem parse_len (a mx : Nat) (t : Bs) : (parse a mx t).1.length ≤ mx := by
  unfold parse
  split
  · simp
  · exact parseL_len _ _ _ _ (by simp)
end Go.Sc
namespace Go.Proofs.YtocfaflghcgniaaDoor
open Go Go.T Go.Proofs Go.Sc Go.RowKit
set_option linter.unusedSimpArgs false
set_option linter.unusedVariables false
set_option maxRecDepth 10000
set_option maxHeartbeats 4000000
theorem Parses_at (t : Bs) (h : Hp) (hp : h.con powL = powC) : CallK Tryd.prog 3 [strV t] h (fun r _ => r = .bool true) := by
  refine CallK.of_awpH mixed (fun _ => []) (fn := Tryd.f3) (by kernel_rfl) rfl (by kernel_rfl) (by show 1 ≤ _; decide) ?_
  repeat' first
    | (with_reducible refine CondX.dec (fun c => ?_) (fun c => ?_)) <;> try (exfalso; omega)
    | (with_reducible refine CondX.beq (fun c => ?_) (fun c => ?_)) <;> try (exfalso; omega)
    | (with_reducible refine CondX.bne (fun c => ?_) (fun c => ?_)) <;> try (exfalso; omega)
    | (with_reducible refine CondX.bool (fun c => ?_) (fun c => ?_)) <;> try (exfalso; omega)
    | ((with_reducible refine CallX.id ?_); first | refine CallX.at (wakes_at h hp) ?_)
    | simp only [go_sem, I_eq, I_cells, Nat.reduceAdd, Nat.reduceBEq, Nat.reduceEqDiff, Nat.reduceLeDiff, Nat.reduceLT, Nat.reduceSub]
    | simp (disch := omega) only [wrap_in, toNat_succ, toNat_pred, Int.toNat_natCast]
    | with_reducible refine And.intro (by omega) ?_
    | with_reducible refine exI (by omega) ?_
    | fail
  have hl := parse_len 65536 4096 t
  refine CallX.of ((Parse_spec t h).mono ?_)
  rintro r H ⟨v, rfl, ga, gk⟩
  repeat' first
    | (with_reducible refine CondX.dec (fun c => ?_) (fun c => ?_)) <;> try (exfalso; omega)
    | (with_reducible refine CondX.beq (fun c => ?_) (fun c => ?_)) <;> try (exfalso; omega)
    | (with_reducible refine CondX.bne (fun c => ?_) (fun c => ?_)) <;> try (exfalso; omega)
    | (with_reducible refine CondX.bool (fun c => ?_) (fun c => ?_)) <;> try (exfalso; omega)
    | simp only [go_sem, I_eq, I_cells, Nat.reduceAdd, Nat.reduceBEq, Nat.reduceEqDiff, Nat.reduceLeDiff, Nat.reduceLT, Nat.reduceSub]
    | simp (disch := omega) only [wrap_in, toNat_succ, toNat_pred, Int.toNat_natCast]
    | with_reducible refine And.intro (by omega) ?_
    | with_reducible refine exI (by omega) ?_
    | fail
  refine CallX.of ((rParse_spec t H).mono ?_)
  rintro r H2 ⟨v2, rfl, ga2, gk2⟩
  repeat' first
    | (with_reducible refine CondX.dec (fun c => ?_) (fun c => ?_)) <;> try (exfalso; omega)
    | (with_reducible refine CondX.beq (fun c => ?_) (fun c => ?_)) <;> try (exfalso; omega)
    | (with_reducible refine CondX.bne (fun c => ?_) (fun c => ?_)) <;> try (exfalso; omega)
    | (with_reducible refine CondX.bool (fun c => ?_) (fun c => ?_)) <;> try (exfalso; omega)
    | simp only [go_sem, I_eq, I_cells, Nat.reduceAdd, Nat.reduceBEq, Nat.reduceEqDiff, Nat.reduceLeDiff, Nat.reduceLT, Nat.reduceSub]
    | simp (disch := omega) only [wrap_in, toNat_succ, toNat_pred, Int.toNat_natCast]
    | with_reducible refine And.intro (by omega) ?_
    | with_reducible refine exI (by omega) ?_
    | fail
  refine same_oo (ga.keep gk2) ga2 (fun L h1 h2 => ?_) (by omega) (by omega) ?_
  · subst h1
    subst h2
    have e1 := ga.own'.1
    rw [ga2.own'.2] at e1; cases e1
  rw [decide_eq_true rfl]
  repeat' first
    | (with_reducible refine CondX.dec (fun c => ?_) (fun c => ?_)) <;> try (exfalso; omega)
    | (with_reducible refine CondX.beq (fun c => ?_) (fun c => ?_)) <;> try (exfalso; omega)
    | (with_reducible refine CondX.bne (fun c => ?_) (fun c => ?_)) <;> try (exfalso; omega)
    | (with_reducible refine CondX.bool (fun c => ?_) (fun c => ?_)) <;> try (exfalso; omega)
    | simp only [go_sem, I_eq, I_cells, Nat.reduceAdd, Nat.reduceBEq, Nat.reduceEqDiff, Nat.reduceLeDiff, Nat.reduceLT, Nat.reduceSub]
    | simp (disch := omega) only [wrap_in, toNat_succ, toNat_pred, Int.toNat_natCast]
    | with_reducible refine And.intro (by omega) ?_
    | with_reducible refine exI (by omega) ?_
    | fail
end Go.Proofs.YtocfaflghcgniaaDoor
