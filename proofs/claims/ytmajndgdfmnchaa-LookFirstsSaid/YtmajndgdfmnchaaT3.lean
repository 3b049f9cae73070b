/- Part of a proof: a small logic of programs over plain values, shown sound for the given machine. -/
import Derived.Test.YtmajndgdfmnchaaT2
import Derived.Shelf.Sort.Plain
import Derived.Sort.OwnSortedInts
import Derived.ChangeArms
import Derived.OpenShut
import Derived.Below
/- Freezing: what is mutable no more is a value. -/
namespace Go.T
open Go

mutual
/-- A value in which label L, which holds c, is read aas what c says. -/
def AV.frz (L : Lab) (c : Con) : AV → AV
  | .os M => if M = L then (match c with | .arr sz xs => .l false sz xs | _ => .os M) else .os M
  | .pt M sz i j => if M = L then (match c with | .blk cs => if i = 0 then .ip (cs.drop j) else .pt M sz i j | _ => .pt M sz i j) else .pt M sz i j
  | .l ex sz xs => .l ex sz (AV.frzs L c xs)
  | .ip cs => .ip (AV.frzs L c cs)
  | .agg cs => .agg (AV.frzs L c cs)
  | .tup cs => .tup (AV.frzs L c cs)
  | .fn f cs => .fn f (AV.frzs L c cs)
  | v => v
def AV.frzs (L : Lab) (c : Con) : List AV → List AV
  | [] => []
  | x :: r => AV.frz L c x :: AV.frzs L c r
end
theorem frzs_map (L : Lab) (c : Con) : ∀ xs, AV.frzs L c xs = xs.map (AV.frz L c) := by
  intro xs
  induction xs with
  | nil => rfl
  | cons x r ih => simp [AV.frzs, ih]
theorem frz_cells (L : Lab) (c : Con) (a : AV) : (a.frz L c).cells = a.cells.map (AV.frz L c) := by
  cases a with
  | agg cs => simp [AV.frz, AV.cells, frzs_map]
  | os M =>
    by_cases hM : M = L
    · cases c <;> simp [AV.frz, AV.cells, hM]
    · simp [AV.frz, AV.cells, hM]
  | pt M sz i j =>
    by_cases hM : M = L
    · cases c with
      | blk cs => by_cases hi : i = 0 <;> simp [AV.frz, AV.cells, hM, hi]
      | _ => simp [AV.frz, AV.cells, hM]
    · simp [AV.frz, AV.cells, hM]
  | _ => simp [AV.frz, AV.cells]
theorem frz_undef (L : Lab) (c : Con) : AV.undef.frz L c = .undef := by simp [AV.frz]
theorem frz_getD (L : Lab) (c : Con) (l : List AV) (j : Nat) : (l.map (AV.frz L c)).getD j .undef = (l.getD j .undef).frz L c := by
  simp only [List.getD_eq_getElem?_getD, List.getElem?_map]
  cases l[j]? <;> simp [frz_undef]

section
variable {w : World} {B : Nat → Prop} {e : Env} {h : Hp} {L : Lab}
/-- The blocks that don't turn any more, L's too. -/
def frzB (B : Nat → Prop) (e : Env) (h : Hp) (L : Lab) (b : Nat) : Prop := B b ∨ (e.has h L ∧ b = (e.β L).block)

theorem set_none_con (M : Lab) : (h.set L .none).con M = if M = L then .none else h.con M := by
  simp only [Hp.set]
  split
  · cases h.con L <;> rfl
  · rfl
theorem drop_none (M : Lab) : (h.set L .none).con M = .none ∨ (h.set L .none).con M = h.con M := by
  rw [set_none_con]
  by_cases hE : M = L
  · rw [if_pos hE]; exact .inl rfl
  · rw [if_neg hE]; exact .inr rfl
theorem E_frz {a : AV} {v : Value} (hE : e.E h a v) : e.E (h.set L .none) a v := by
  have live : ∀ M, ((h.set L .none).con M).live → (h.con M).live := fun M hl => by
    rcases drop_none (h := h) (L := L) M with h1 | h1
    · rw [h1] at hl; exact hl.elim
    · rwa [h1] at hl
  cases a with
  | pt M sz i j => exact ⟨hE.1, hE.2.1, fun hl => hE.2.2 (live M hl)⟩
  | os M => exact ⟨hE.1, hE.2.1, fun hl => hE.2.2 (live M hl)⟩
  | mr M => exact ⟨hE.1, hE.2.1, fun hl => hE.2.2 (live M hl)⟩
  | yl M => exact hE
  | _ => exact hE.elim
theorem R_keep {a : AV} {v : Value} (hR : R w B (e.E h) a v) : R w (frzB B e h L) (e.E (h.set L .none)) a v :=
  hR.mono (fun _ _ => rfl) (fun _ hb => .inl hb) (fun _ _ => E_frz)

theorem R_frz (hh : HRel w B e h) {a : AV} {v : Value} (hR : R w B (e.E h) a v) : R w (frzB B e h L) (e.E (h.set L .none)) (a.frz L (h.con L)) v := by
  induction hR with
  | undef v => exact .undef v
  | un => exact .un
  | int k n => exact .int k n
  | bool b => exact .bool b
  | str s => exact .str s
  | nilp => exact .nilp
  | nilf => exact .nilf
  | nilm => exact .nilm
  | l0 ex sz a c hx => exact .l0 ex sz a c hx
  | l ex sz xs b off cap vs h1 h2 h3 h4 h5 h6 h7 h8 ih =>
    simp only [AV.frz, frzs_map]
    have := R.l (E := e.E (h.set L .none)) (w := w) (B := frzB B e h L) ex sz (xs.map (AV.frz L (h.con L))) b off cap vs (by simpa using h1) (by simpa using h2) (by simpa using h3) (.inl h4)
      (fun i hi => by simp only [List.getElem_map, frz_cells, List.length_map]; exact h5 i (by simpa using hi))
      (fun i j hi hj => h6 i j (by simpa using hi) hj)
      (fun i j hi hj => by simp only [List.getElem_map, frz_cells, frz_getD]; exact ih i j (by simpa using hi) hj)
      (fun i j hi hj => h8 i j (by simpa using hi) hj)
    simpa using this
  | ip cs b off vs h1 h2 h3 ih =>
    simp only [AV.frz, frzs_map]
    exact .ip _ b off vs (.inl h1) (fun j hj => h2 j (by simpa using hj)) (fun j hj => by rw [frz_getD]; exact ih j (by simpa using hj))
  | agg cs vs h1 h2 ih =>
    simp only [AV.frz, frzs_map]
    exact .agg _ vs (by simpa using h1) (fun j hj => by rw [frz_getD]; exact ih j (by simpa using hj))
  | tup cs vs h1 h2 ih =>
    simp only [AV.frz, frzs_map]
    exact .tup _ vs (by simpa using h1) (fun j hj => by rw [frz_getD]; exact ih j (by simpa using hj))
  | fn f cs vs h1 h2 ih =>
    simp only [AV.frz, frzs_map]
    exact .fn f _ vs (by simpa using h1) (fun j hj => by rw [frz_getD]; exact ih j (by simpa using hj))
  | ref a v hE =>
    have plain : R w (frzB B e h L) (e.E (h.set L .none)) a v := .ref _ _ (E_frz hE)
    cases a with
    | os M =>
      simp only [AV.frz]
      split
      · rename_i hM; subst hM
        split
        · rename_i sz xs hcon
          have hk := hE.1
          have hc := hh.con _ hk
          rw [hcon] at hc
          obtain ⟨a', cap, g1, g2, g3, g4⟩ := hc
          have hv := hE.2.2 (by rw [hcon]; trivial)
          rw [hv, g1]
          by_cases hx : xs = []
          · subst hx; exact .l0 _ _ _ _ (fun hf => by simp at hf)
          have hlen : 0 < xs.length := List.length_pos_iff.2 hx
          rcases g4 with g4 | ⟨ga, gs, gB, vs, T, gb, gsz, gr⟩
          · omega
          have hβ : e.β M = ⟨(e.β M).block, (e.β M).off, .none⟩ := by rw [← gs]
          rw [ga, hβ]
          refine .l false sz xs _ _ cap (fun i j => vs.getD ((e.β M).off + (i * sz + j)) undef) hx (fun hf => by simp at hf) g2 (.inr ⟨⟨hk, ?_⟩, rfl⟩) g3 (fun i j hi hj => ?_) (fun i j hi hj => R_keep (gr i j hi hj).1) (fun i j hi hj => (gr i j hi hj).2)
          · rw [hcon]; exact ⟨a', xs.length, cap, g1, by omega⟩
          · refine getD_row gb ?_
            have : (i + 1) * sz ≤ cap * sz := Nat.mul_le_mul_right _ (by omega)
            rw [Nat.add_mul] at this
            omega
        · exact plain
      · exact plain
    | pt M sz i j =>
      simp only [AV.frz]
      split
      · rename_i hM; subst hM
        split
        · rename_i cs hcon
          split
          · rename_i hi; subst hi
            have hk := hE.1
            have hc := hh.con _ hk
            rw [hcon] at hc
            obtain ⟨gB, goff, vs, T, gb, gsz, gr⟩ := hc
            have hv := hE.2.2 (by rw [hcon]; trivial)
            rw [hv]
            refine .ip _ _ _ (fun x => vs.getD (j + x) undef) (.inr ⟨⟨hk, by rw [hcon]; trivial⟩, rfl⟩) (fun x hx => ?_) (fun x hx => ?_)
            · simp only [List.length_drop] at hx
              rw [goff, Nat.zero_add, Nat.zero_mul, Nat.zero_add]
              exact getD_row gb (by omega)
            · simp only [List.length_drop] at hx
              have e1 : (cs.drop j).getD x .undef = cs.getD (j + x) .undef := by simp
              rw [e1]
              exact R_keep (gr (j + x) (by omega))
          · exact plain
        · exact plain
      · exact plain
    | mr M => exact plain
    | yl M => exact plain
    | _ => exact hE.elim

theorem has_frz {M : Lab} (hM : e.has (h.set L .none) M) : M ≠ L ∧ e.has h M := by
  obtain ⟨hk, hm⟩ := hM
  have hne : M ≠ L := fun hE => by
    rw [set_none_con, if_pos hE] at hm; exact hm
  refine ⟨hne, hk, ?_⟩
  rw [set_none_con, if_neg hne] at hm
  exact hm
theorem HRel_frz (hh : HRel w B e h) : HRel w (frzB B e h L) e (h.set L .none) := by
  refine ⟨fun M hk => ?_, fun M M' hM hM' hb => hh.inj _ _ (has_frz hM).2 (has_frz hM').2 hb, fun b hb => ?_⟩
  · have hcon := hh.con M hk
    rw [set_none_con]
    by_cases hE : M = L
    · rw [if_pos hE]; trivial
    rw [if_neg hE]
    have nb : e.has h M → ¬ B (e.β M).block → ¬ frzB B e h L (e.β M).block := fun hM hB hb => by
      rcases hb with hb | ⟨hL, hb⟩
      · exact hB hb
      · exact hE (hh.inj _ _ hM hL hb)
    cases hc : h.con M with
    | none => trivial
    | blk cs =>
      rw [hc] at hcon
      obtain ⟨p1, p2, vs, T, p3, p4, p5⟩ := hcon
      exact ⟨nb ⟨hk, by rw [hc]; trivial⟩ p1, p2, vs, T, p3, p4, fun j hj => R_keep (p5 j hj)⟩
    | arr sz xs =>
      rw [hc] at hcon
      obtain ⟨a, cap, p1, p2, p3, p4⟩ := hcon
      refine ⟨a, cap, p1, p2, p3, ?_⟩
      by_cases h0 : cap = 0
      · exact .inl h0
      rcases p4 with p4 | ⟨p4, p5, p6, vs, T, p7, p8, p9⟩
      · exact .inl p4
      · exact .inr ⟨p4, p5, nb ⟨hk, by rw [hc]; exact ⟨_, _, _, p1, h0⟩⟩ p6, vs, T, p7, p8, fun i j hi hj => ⟨R_keep (p9 i j hi hj).1, (p9 i j hi hj).2⟩⟩
    | lp sl n ps asg bd s =>
      rw [hc] at hcon
      obtain ⟨p1, r, p2, p3, p4, p5, p6, p7, p8⟩ := hcon
      exact ⟨nb ⟨hk, by rw [hc]; trivial⟩ p1, r, p2, p3, p4, p5, p6, fun i => R_keep (p7 i), p8⟩
    | mp es ck =>
      rw [hc] at hcon
      obtain ⟨p1, ents, p2, p3, p4⟩ := hcon
      exact ⟨nb ⟨hk, by rw [hc]; trivial⟩ p1, ents, p2, p3, fun j hj => ⟨R_keep (p4 j hj).1, R_keep (p4 j hj).2.1, (p4 j hj).2.2⟩⟩
  · rcases hb with hb | ⟨hL, hb⟩
    · exact hh.bnd b hb
    · subst hb
      have hcon := hh.con L hL.1
      have hm := hL.2
      have lt : ∀ {o : Obj}, w.heap[(e.β L).block]? = some o → (e.β L).block < w.heap.size := fun ho => (Array.getElem?_eq_some_iff.1 ho).1
      cases hc : h.con L with
      | none => rw [hc] at hm; exact hm.elim
      | blk cs =>
        rw [hc] at hcon
        obtain ⟨_, _, vs, T, p3, _⟩ := hcon
        exact lt p3
      | arr sz xs =>
        rw [hc] at hcon hm
        obtain ⟨a, cap, p1, p2, p3, p4⟩ := hcon
        obtain ⟨a', n', c', q1, q2⟩ := hm
        rcases p4 with p4 | ⟨_, _, _, vs, T, p7, _⟩
        · rw [p1] at q1; injection q1 with _ _ q3; omega
        · exact lt p7
      | lp sl n ps asg bd s =>
        rw [hc] at hcon
        obtain ⟨_, r, p2, _⟩ := hcon
        exact lt p2
      | mp es ck =>
        rw [hc] at hcon
        obtain ⟨_, ents, p2, _⟩ := hcon
        exact lt p2
theorem Ext_frz : Ext w B e h w (frzB B e h L) e (h.set L .none) where
  size := Nat.le_refl _
  os := rfl
  tape := rfl
  output := rfl
  bsub _ hb := .inl hb
  bnew b hb := by
    rcases hb with hb | ⟨hL, hb⟩
    · exact .inl hb
    · exact .inr (.inl ⟨L, hL, hb.symm⟩)
  keep _ _ _ := rfl
  onew M hM := .inl ⟨M, (has_frz hM).2, rfl⟩
  cnt _ _ := Nat.le_refl _
  env _ _ := ⟨rfl, rfl⟩
  live M _ hl := by
    rcases drop_none (h := h) (L := L) M with h1 | h1
    · rw [h1] at hl; exact hl.elim
    · rwa [h1] at hl
end

/-- One value may be taken for another. -/
def Le (a b : AV) : Prop := ∀ (w : World) (B : Nat → Prop) (e : Env) (h : Hp) (v : Value), R w B (e.E h) a v → R w B (e.E h) b v
theorem Le.refl (a : AV) : Le a a := fun _ _ _ _ _ h => h
theorem Le.l {ex : Bool} {sz : Nat} {xs : List AV} : Le (.l ex sz xs) (.l false sz xs) := by
  intro w B e h v hR
  cases hR with
  | l0 _ _ a c hx => exact .l0 _ _ _ _ (fun h => by simp at h)
  | l _ _ _ b off cap vs h1 h2 h3 h4 h5 h6 h7 h8 => exact .l _ _ _ _ _ _ vs h1 (fun h => by simp at h) h3 h4 h5 h6 h7 h8
  | ref _ _ h => exact h.elim
theorem Le.l0 {ex : Bool} {sz sz' : Nat} : Le (.l ex sz []) (.l false sz' []) := by
  intro w B e h v hR
  cases hR with
  | l0 _ _ a c hx => exact .l0 _ _ _ _ (fun h => by simp at h)
  | l _ _ _ b off cap vs h1 => exact absurd rfl h1
  | ref _ _ h => exact h.elim
theorem Le.tup {aas bs : List AV} (hl : aas.length = bs.length) (h : ∀ j, j < bs.length → Le (aas.getD j .undef) (bs.getD j .undef)) : Le (.tup aas) (.tup bs) := by
  intro w B e hh v hR
  obtain ⟨vs, rfl, h1, h2⟩ := R_tup hR
  exact .tup _ vs (by rw [h1, hl]) (fun j hj => h j hj _ _ _ _ _ (h2 j (by rw [hl]; exact hj)))
theorem Le.agg {aas bs : List AV} (hl : aas.length = bs.length) (h : ∀ j, j < bs.length → Le (aas.getD j .undef) (bs.getD j .undef)) : Le (.agg aas) (.agg bs) := by
  intro w B e hh v hR
  obtain ⟨vs, rfl, h1, h2⟩ := R_agg hR
  exact .agg _ vs (by rw [h1, hl]) (fun j hj => h j hj _ _ _ _ _ (h2 j (by rw [hl]; exact hj)))
/-- A value, label by label frozen, comes to r; the heap lets the labels go. -/
inductive Frz : Hp → AV → Hp → AV → Prop
  | done (h : Hp) (a r : AV) : Le a r → Frz h a h r
  | step (h : Hp) (L : Lab) (a : AV) (h' : Hp) (r : AV) : Frz (h.set L .none) (a.frz L (h.con L)) h' r → Frz h a h' r
theorem Frz.sound {w : World} {h h' : Hp} {a r : AV} (f : Frz h a h' r) : ∀ {B : Nat → Prop} {e : Env} {v : Value}, HRel w B e h → R w B (e.E h) a v →
    ∃ B', HRel w B' e h' ∧ Ext w B e h w B' e h' ∧ R w B' (e.E h') r v := by
  induction f with
  | done h a r hl => exact fun hh hR => ⟨_, hh, Ext.refl _ _ _ _, hl _ _ _ _ _ hR⟩
  | step h L a h' r _ ih =>
    intro B e v hh hR
    obtain ⟨B', h1, h2, h3⟩ := ih (HRel_frz hh) (R_frz hh hR)
    exact ⟨B', h1, Ext_frz.trans h2, h3⟩
theorem Frz.keeps {h h' : Hp} {a r : AV} (f : Frz h a h' r) : ∀ L, h'.con L = .none ∨ h'.con L = h.con L := by
  induction f with
  | done h a r hl => exact fun L => .inr rfl
  | step h M a h' r _ ih =>
    intro L
    rcases ih L with h1 | h1
    · exact .inl h1
    · rcases drop_none (h := h) (L := M) L with h2 | h2
      · left; rw [h1, h2]
      · right; rw [h1, h2]

/-- **A function's answer, frozen.** -/
theorem CallK.frz {P : Program} {f : Nat} {args : List AV} {h : Hp} {K : AV → Hp → Prop} (hc : CallK P f args h (fun r h' => ∃ h'' r', Frz h' r h'' r' ∧ K r' h'')) : CallK P f args h K := by
  intro w B e vs h1 h2 h3
  refine (hc w B e vs h1 h2 h3).mono ?_
  rintro en w' ⟨v, r, h', B', e', rfl, g2, g3, g4, h'', r', g5, g6⟩
  obtain ⟨B'', k1, k2, k3⟩ := g5.sound g2 g4
  exact ⟨v, r', h'', B'', e', rfl, k1, g3.trans k2, k3, g6⟩

theorem CallK.leArg {P : Program} {f : Nat} {args args' : List AV} {h : Hp} {K : AV → Hp → Prop} (hl : args.length = args'.length) (hle : ∀ i, i < args.length → Le (args.getD i .un) (args'.getD i .un)) (hc : CallK P f args' h K) : CallK P f args h K := by
  intro w B e vs h1 h2 h3
  exact hc w B e vs h1 (by rw [h2, hl]) (fun i hi => hle i (by rw [hl]; exact hi) _ _ _ _ _ (h3 i (by rw [hl]; exact hi)))

/-- The end of a pure function whose answer is frozen to r. -/
def endZ (P : Program) (fn : Func) (r : AV) (h : Hp) : Ex → St → Prop
  | .exit _, _ => False
  | _, st => resK P fn.results.toList st (fun vs => ∃ h'', Frz st.hp (oneOf vs) h'' r ∧ Keeps h h'')
theorem PureAt.of_awpZ {P : Program} (hm : P.follows .mixedOrders = true) (T : Nat → List Tg) {f : FuncId} {fn : Func} {c : Code} {args : List AV} {h : Hp} {r : AV} (hf : P.funcs[f]? = some fn) (hb : fn.body = some c) (hok : okCode fn.ntmps T c = true)
    (hl : args.length ≤ fn.ntmps) (hlf : r.lf = true) (hk : awp P f T c (endZ P fn r h) (enter args h)) : CallK P f args h (fun r' h' => r' = r ∧ h' = h) := by
  have hQ : ∀ ex st, endZ P fn r h ex st → endK P fn (fun r' h' => ∃ h'' r'', Frz h' r' h'' r'' ∧ r'' = r ∧ Keeps h h'') ex st := by
    have key : ∀ st, (resK P fn.results.toList st (fun vs => ∃ h'', Frz st.hp (oneOf vs) h'' r ∧ Keeps h h'')) → resK P fn.results.toList st (fun vs => ∃ h' : Hp, (∀ L, h'.con L = .none ∨ h'.con L = st.hp.con L) ∧ h'.cnt = st.hp.cnt ∧ ∃ h'' r'', Frz h' (oneOf vs) h'' r'' ∧ r'' = r ∧ Keeps h h'') := by
      intro st h1
      exact resK_mono h1 fun vs ⟨h'', g1, g2⟩ => ⟨st.hp, fun _ => .inr rfl, rfl, h'', r, g1, rfl, g2⟩
    intro ex st hx
    cases ex with
    | exit id => exact hx.elim
    | normal => exact key st hx
    | ret => exact key st hx
  refine CallK.pure ((CallK.frz (K := fun r' h' => r' = r ∧ Keeps h h') ((CallK.of_awp' hm T hf hb hok hl hQ hk).mono ?_)).mono ?_)
  · rintro r' h' ⟨h'', r'', g1, g2, g3⟩
    exact ⟨h'', r'', g1, g2, g3⟩
  · rintro r' h' ⟨rfl, h2⟩
    exact ⟨hlf, h2, rfl⟩
theorem PureF.of_awpZ {P : Program} (hm : P.follows .mixedOrders = true) (T : Nat → List Tg) {f : FuncId} {fn : Func} {c : Code} {args : List AV} {r : AV} (hf : P.funcs[f]? = some fn) (hb : fn.body = some c) (hok : okCode fn.ntmps T c = true)
    (hl : args.length ≤ fn.ntmps) (hlf : r.lf = true) (hk : ∀ h, awp P f T c (endZ P fn r h) (enter args h)) : PureF P f args r :=
  fun h => PureAt.of_awpZ hm T hf hb hok hl hlf (hk h)
section ends
variable {P : Program} {fn : Func} {r : AV} {h : Hp} {st : St}
@[go_sem ↓, go_sem] theorem endZ_ret : endZ P fn r h .ret st = resK P fn.results.toList st (fun vs => ∃ h'', Frz st.hp (oneOf vs) h'' r ∧ Keeps h h'') := by simp [endZ]
end ends
end Go.T
/- A round of a range over a function, out of the abstract run of its body. -/
namespace Go.T
open Go

def putS : List Nat → List AV → St → St
  | p :: ps, a :: aas, st => putS ps aas (st.put (some p) a)
  | _, _, st => st
/-- The assignment to the loop's left sides ends aas it begins. -/
def asgQ (N : St → Prop) : Ex → St → Prop
  | .normal, s => N s
  | _, _ => False
/-- A round's end. -/
def roundQ (L : Lab) (slots : Nat → AV) (n : Nat) (ps : List Nat) (asg body : Code) (K : AV → Hp → Prop) : Ex → St → Prop
  | .normal, s => K (.bool true) (s.hp.back L (.lp slots n ps asg body .ready))
  | .exit id, s => K (.bool false) (s.hp.back L (.lp slots n ps asg body (.done (.exit id))))
  | .ret, s => K (.bool false) (s.hp.back L (.lp slots n ps asg body (.done .ret)))

theorem putS_rel {w : World} {B : Nat → Prop} {e : Env} {n : Nat} : ∀ (ps : List Nat) (aas : List AV) (vs : List Value) (st : St) (tmps : Array Value), aas.length = ps.length → vs.length = ps.length → (∀ p ∈ ps, p < n) →
    tmps.size = n → (∀ i, R w B (e.E st.hp) (st.slots i) (tmps.getD i undef)) → (∀ i, i < aas.length → R w B (e.E st.hp) (aas.getD i .un) (vs.getD i undef)) →
    ((ps.zip vs).foldl (fun t p => t.setIfInBounds p.1 p.2) tmps).size = n ∧ (putS ps aas st).hp = st.hp ∧ ∀ i, R w B (e.E st.hp) ((putS ps aas st).slots i) (((ps.zip vs).foldl (fun t p => t.setIfInBounds p.1 p.2) tmps).getD i undef) := by
  intro ps
  induction ps with
  | nil =>
    intro aas vs st tmps h1 h2 _ h3 h4 _
    have : aas = [] := List.length_eq_zero_iff.1 h1
    subst this
    exact ⟨by simpa using h3, rfl, by simpa [putS] using h4⟩
  | cons p ps ih =>
    intro aas vs st tmps h1 h2 hp h3 h4 h5
    cases aas with
    | nil => simp at h1
    | cons a aas =>
      cases vs with
      | nil => simp at h2
      | cons v vs =>
        have hpn := hp p (by simp)
        have h0 := h5 0 (by simp)
        simp only [List.getD_cons_zero] at h0
        obtain ⟨g1, g2, g3⟩ := ih aas vs (st.put (some p) a) (tmps.setIfInBounds p v) (by simpa using h1) (by simpa using h2) (fun q hq => hp q (by simp [hq])) (by simpa using h3) (fun i => by
          rw [put_slots, put_hp]
          by_cases hi : i = p
          · subst hi
            rw [if_pos rfl]
            have : (tmps.setIfInBounds i v).getD i undef = v := by
              simp only [Array.getD_eq_getD_getElem?]
              rw [Array.getElem?_setIfInBounds_self_of_lt (by omega)]; rfl
            rw [this]; exact h0
          · rw [if_neg hi]
            have : (tmps.setIfInBounds p v).getD i undef = tmps.getD i undef := by
              simp only [Array.getD_eq_getD_getElem?]
              rw [Array.getElem?_setIfInBounds_ne (Ne.symm hi)]
            rw [this]; exact h4 i) (fun i hi => by
          rw [put_hp]
          have := h5 (i + 1) (by simpa using hi)
          simpa using this)
        rw [put_hp] at g2 g3
        exact ⟨by simpa using g1, by simpa [putS] using g2, by simpa [putS] using g3⟩

section
variable {P : Program}
theorem YieldK.of_awpC (hm : P.follows .mixedOrders = true) (fid : Nat) (T : Nat → List Tg) {L : Lab} {args : List AV} {h : Hp} {K : AV → Hp → Prop} {slots : Nat → AV} {n : Nat} {ps : List Nat} {asg bd : Code}
    (hcon : h.con L = .lp slots n ps asg bd .ready) (hn : ntm P fid = n) (hps : ∀ p ∈ ps, p < n) (hok1 : okCode n T asg = true) (hok2 : okCode n T bd = true) (hlen : args.length = ps.length)
    (hk : awp P fid T asg (asgQ (awp P fid T bd (fun x s => (∀ f t, h.cnt f t ≤ s.hp.cnt f t) → roundQ L slots n ps asg bd K x s))) (putS ps args ⟨slots, h.set L .none⟩)) : YieldK P L args h K := by
  intro w B e vs hh hLk hs hargs
  have hL : e.has h L := ⟨hLk, by rw [hcon]; trivial⟩
  have hc := hh.con L hLk
  rw [hcon] at hc
  obtain ⟨hB, r, hrow, hpar, hasg, hbody, hsz, hslots, hst, hpend⟩ := hc
  have hlt : (e.β L).block < w.heap.size := (hh.lt hL).1
  refine ⟨r.fn, _, r.assign, r.body, run_yield hrow (by rw [hs, hlen, ← hpar]; simp), fun ro m => ?_⟩
  rw [hasg, hbody]
  -- the round begins: the record is no one's
  have hx1 : Ext w B e h w B e (h.set L .none) := Ext.drop (fun M => dropc M) rfl
  have hh1 : HRel w B e (h.set L .none) := HRel.drop hh (fun M => dropc M) rfl
  have free1 : ∀ M, e.has (h.set L .none) M → (e.β M).block ≠ (e.β L).block := fun M hM hE => (has_drop hM).1 (hh.inj _ _ (has_drop hM).2 hL hE)
  have hfold : (r.params.zip vs).foldl (fun tmps x => tmps.setIfInBounds x.1 x.2) r.tmps = (ps.zip vs.toList).foldl (fun t p => t.setIfInBounds p.1 p.2) r.tmps := by
    rw [← Array.foldl_toList, Array.toList_zip, hpar]
  obtain ⟨p1, p2, p3⟩ := putS_rel (w := w) (B := B) (e := e) (n := n) ps args vs.toList ⟨slots, h.set L .none⟩ r.tmps hlen (by rw [← hlen, ← hs]; simp) hps hsz (fun i => (hslots i).ext hh hx1) (fun i hi => by
    have := (hargs i hi).ext hh hx1
    simpa using this)
  have hrel : Rel w B e n (putS ps args ⟨slots, h.set L .none⟩) { tmps := (r.params.zip vs).foldl (fun tmps x => tmps.setIfInBounds x.1 x.2) r.tmps, defers := [] } := by
    rw [hfold]
    exact ⟨by rw [p2]; exact hh1, fun i => by rw [p2]; exact p3 i, p1⟩
  have main := awp_sound (w0 := w) (B0 := B) (e0 := e) (h0 := h.set L .none) (n := n) hm fid hn T (some (e.β L).block) w.heap.size (Nat.le_refl _) (fun l0 hl0 => by
    simp only [Option.some.injEq] at hl0; subst hl0; exact ⟨r, hrow, hlt, free1⟩) asg _ _ _ w B e m hok1 hrel (by rw [p2]; exact Ext.refl _ _ _ _) (DefOK.nil _ _ _ _ _) hk
  refine roundIn_of_wpIn (F := wr ro) (n := m) (l := (e.β L).block) trivial (wpIn_mono main ?_)
  rintro ex a1 w1 ⟨x', hx', st1, B1, e1, g1, g2, g3, g4⟩
  have key : awp P fid T bd (fun x s => (∀ f t, h.cnt f t ≤ s.hp.cnt f t) → roundQ L slots n ps asg bd K x s) st1 → ∃ w₂, (Instr.beginRound (e.β L).block).run P w1 = .ok () w₂ ∧ bd.wpIn ((wr ro).inRound (e.β L).block) m P (roundPost P (e.β L).block (fun en w' => ∃ v r h' B' e', en = .returned v ∧ HRel w' B' e' h' ∧ Ext w B e h w' B' e' h' ∧ R w' B' (e'.E h') r v ∧ K r h')) a1 w₂ := by
    intro hbd
    obtain ⟨s1, s2, s3⟩ := unowned_ext g3 hlt free1
    have nb1 : ¬ B1 (e.β L).block := notB_ext g3 hlt free1 hB
    refine ⟨w1.putObj (e.β L).block (.loop { r with state := .busy }), run_beginRound (s2.trans hrow) hst, ?_⟩
    have hother1 : ∀ b, (B1 b ∨ ∃ M, e1.has st1.hp M ∧ (e1.β M).block = b) → (w1.putObj (e.β L).block (.loop { r with state := .busy })).heap[b]? = w1.heap[b]? := by
      rintro b (hb | ⟨M, hM, rfl⟩)
      · exact World.putObj_heap_other (fun hE => nb1 (hE ▸ hb))
      · exact World.putObj_heap_other (s3 M hM)
    have hh2 : HRel (w1.putObj (e.β L).block (.loop { r with state := .busy })) B1 e1 st1.hp := g2.hp.free (by simp) hother1
    have hrel2 : Rel (w1.putObj (e.β L).block (.loop { r with state := .busy })) B1 e1 n st1 a1 := ⟨hh2, fun i => (g2.slots i).mono (fun b hb => hother1 b (.inl hb)) (fun _ h => h) (fun _ _ h => h), g2.size⟩
    have hrow2 : (w1.putObj (e.β L).block (.loop { r with state := .busy })).heap[(e.β L).block]? = some (.loop { r with state := .busy }) := World.putObj_heap_same s1
    have hdef2 : DefOK w.heap.size (w1.putObj (e.β L).block (.loop { r with state := .busy })) B1 e1 st1.hp a1.defers := by
      obtain ⟨Ds, d1, d2, d3⟩ := g4
      refine ⟨Ds, d1, d2, fun D hD => ?_⟩
      obtain ⟨y1, y2, y3, y4, y5⟩ := d3 D hD
      have hne : D ≠ (e.β L).block := fun hE => by
        rw [hE, s2, hrow] at y4; simp at y4
      exact ⟨y1, y2, by simpa using y3, by rw [World.putObj_heap_other hne]; exact y4, y5⟩
    have main2 := awp_sound (w0 := w1.putObj (e.β L).block (.loop { r with state := .busy })) (B0 := B1) (e0 := e1) (h0 := st1.hp) (n := n) hm fid hn T (some (e.β L).block) w.heap.size (by simpa using g3.size) (fun l0 hl0 => by
      simp only [Option.some.injEq] at hl0; subst hl0; exact ⟨_, hrow2, by simpa using s1, s3⟩) bd _ _ _ _ B1 e1 m hok2 hrel2 (Ext.refl _ _ _ _) hdef2 hbd
    refine wpIn_mono main2 ?_
    rintro ex2 a3 w3 ⟨x2, hx2, st3, B3, e3, k1, k2, k3, k4⟩
    obtain ⟨t1, t2, t3⟩ := unowned_ext k3 (by simpa using s1) s3
    have nb3 : ¬ B3 (e.β L).block := notB_ext k3 (by simpa using s1) s3 nb1
    have hrow3 : w3.heap[(e.β L).block]? = some (.loop { r with state := .busy }) := t2.trans hrow2
    have hk3 : L.k < st3.hp.cnt L.f L.s := Nat.lt_of_lt_of_le (Nat.lt_of_lt_of_le hLk (g3.cnt _ _)) (k3.cnt _ _)
    have hk1 : L.k < st1.hp.cnt L.f L.s := Nat.lt_of_lt_of_le hLk (g3.cnt _ _)
    have hβ3 : e3.β L = e.β L := by rw [(k3.env L hk1).1]; exact (g3.env L hLk).1
    -- the record is taken up again
    have finish : ∀ (jump : Option Code) (s' : LpS), (match s' with | .ready => jump = none | .done x => jump = some (exC x)) → ∀ b, b = jump.isNone → K (.bool b) (st3.hp.back L (.lp slots n ps asg bd s')) →
        ∃ v w', (Instr.endRound (e.β L).block jump).run P w3 = .ok v w' ∧ (fun en w' => ∃ v r h' B' e', en = .returned v ∧ HRel w' B' e' h' ∧ Ext w B e h w' B' e' h' ∧ R w' B' (e'.E h') r v ∧ K r h') (Ending.returned v) w' := by
      intro jump s' hj b hb hK
      obtain ⟨o4, ho4⟩ : ∃ o : Loop, o = { r with state := if jump.isNone then .ready else .done, pending := jump } := ⟨_, rfl⟩
      have hc4 : ∀ M, (st3.hp.back L (.lp slots n ps asg bd s')).con M = if M = L then .lp slots n ps asg bd s' else st3.hp.con M := fun M => back_con hk3 M
      have hcnt4 : (st3.hp.back L (.lp slots n ps asg bd s')).cnt = st3.hp.cnt := back_cnt
      have has4 : ∀ M, M ≠ L → e3.has (st3.hp.back L (.lp slots n ps asg bd s')) M → e3.has st3.hp M := fun M hne hM => by
        refine ⟨by have := hM.1; rwa [hcnt4] at this, ?_⟩
        have := hM.2
        rwa [hc4, if_neg hne] at this
      have live4 : ∀ M, ((st3.hp.back L (.lp slots n ps asg bd s')).con M).live → M ≠ L ∧ (st3.hp.con M).live := fun M hl => by
        rw [hc4] at hl
        by_cases hE : M = L
        · rw [if_pos hE] at hl; exact hl.elim
        · rw [if_neg hE] at hl; exact ⟨hE, hl⟩
      have hE4 : ∀ a v, e3.E st3.hp a v → e3.E (st3.hp.back L (.lp slots n ps asg bd s')) a v := fun a v hE => by
        cases a with
        | pt M sz i j => exact ⟨by rw [hcnt4]; exact hE.1, hE.2.1, fun hl => hE.2.2 (live4 M hl).2⟩
        | os M => exact ⟨by rw [hcnt4]; exact hE.1, hE.2.1, fun hl => hE.2.2 (live4 M hl).2⟩
        | mr M => exact ⟨by rw [hcnt4]; exact hE.1, hE.2.1, fun hl => hE.2.2 (live4 M hl).2⟩
        | yl M => exact ⟨by rw [hcnt4]; exact hE.1, hE.2⟩
        | _ => exact hE.elim
      have hother3 : ∀ b, (B3 b ∨ ∃ M, e3.has st3.hp M ∧ (e3.β M).block = b) → (w3.putObj (e.β L).block (.loop o4)).heap[b]? = w3.heap[b]? := by
        rintro b (hb | ⟨M, hM, rfl⟩)
        · exact World.putObj_heap_other (fun hE => nb3 (hE ▸ hb))
        · exact World.putObj_heap_other (t3 M hM)
      have xx : Ext w B e h (w3.putObj (e.β L).block (.loop o4)) B3 e3 (st3.hp.back L (.lp slots n ps asg bd s')) := by
        have z1 := g3.size
        have z2 := k3.size
        simp only [World.putObj_size] at z2
        refine ⟨by simp; omega, k3.os.trans g3.os, k3.tape.trans g3.tape, k3.output.trans g3.output, fun b hb => k3.bsub b (g3.bsub b hb), fun b hb => ?_, fun b hb ho => ?_, fun M hM => ?_, fun f s => ?_, fun M hM => ?_, fun M hM hl => ?_⟩
        · rcases k3.bnew b hb with q | ⟨M, q1, q2⟩ | q
          · rcases g3.bnew b q with q | ⟨M, q1, q2⟩ | q
            · exact .inl q
            · exact .inr (.inl ⟨M, (has_drop q1).2, q2⟩)
            · exact .inr (.inr q)
          · rcases g3.onew M q1 with ⟨M', q3, q4⟩ | q3
            · exact .inr (.inl ⟨M', (has_drop q3).2, q4.trans q2⟩)
            · exact .inr (.inr (by omega))
          · exact .inr (.inr (by simp at q; omega))
        · have hbl : b ≠ (e.β L).block := fun hE => ho L hL hE.symm
          have u1 : ∀ M, e.has (h.set L .none) M → (e.β M).block ≠ b := fun M hM => ho M (has_drop hM).2
          obtain ⟨v1, v2, v3⟩ := unowned_ext g3 hb u1
          obtain ⟨_, v5, _⟩ := unowned_ext k3 (by simpa using v1) v3
          rw [World.putObj_heap_other hbl, v5, World.putObj_heap_other hbl, v2]
        · by_cases hE : M = L
          · exact .inl ⟨L, hL, by rw [hE, hβ3]⟩
          · rcases k3.onew M (has4 M hE hM) with ⟨M', q1, q2⟩ | q1
            · rcases g3.onew M' q1 with ⟨M2, q3, q4⟩ | q3
              · exact .inl ⟨M2, (has_drop q3).2, q4.trans q2⟩
              · exact .inr (by omega)
            · exact .inr (by simp at q1; omega)
        · rw [hcnt4]; exact Nat.le_trans (g3.cnt f s) (k3.cnt f s)
        · obtain ⟨q1, q2⟩ := g3.env M hM
          obtain ⟨q3, q4⟩ := k3.env M (Nat.lt_of_lt_of_le hM (g3.cnt _ _))
          exact ⟨q3.trans q1, q4.trans q2⟩
        · have h1 := live4 M hl
          have h2 := k3.live M (Nat.lt_of_lt_of_le hM (g3.cnt _ _)) h1.2
          have h3 := g3.live M hM h2
          rcases dropc (h := h) (L := L) M with h4 | h4
          · rw [h4] at h3; exact h3.elim
          · rwa [h4] at h3
      have hh4 : HRel (w3.putObj (e.β L).block (.loop o4)) B3 e3 (st3.hp.back L (.lp slots n ps asg bd s')) := by
        refine ⟨fun M hM => ?_, fun M M' hM hM' hb => ?_, fun b hb => by simpa using k2.hp.bnd b hb⟩
        · rw [hc4]
          by_cases hE : M = L
          · subst hE
            rw [if_pos rfl]
            refine ⟨by rw [hβ3]; exact nb3, o4, by rw [hβ3]; exact World.putObj_heap_same t1, by rw [ho4]; exact hpar, by rw [ho4]; exact hasg, by rw [ho4]; exact hbody, by rw [ho4]; exact hsz, fun i => ?_, ?_⟩
            · have : o4.tmps = r.tmps := by rw [ho4]
              rw [this]; exact (hslots i).ext hh xx
            · rw [ho4]
              cases s' with
              | ready => simp only at hj; subst hj; exact ⟨rfl, rfl⟩
              | done x => simp only at hj; subst hj; exact ⟨rfl, rfl⟩
          · rw [if_neg hE]
            have hk' : M.k < st3.hp.cnt M.f M.s := by rw [hcnt4] at hM; exact hM
            exact ConRel.move (fun a v hR => hR.mono (fun b hb => hother3 b (.inl hb)) (fun _ h => h) hE4) rfl rfl (fun ho => hother3 _ (.inr ⟨M, own_has hk' ho, rfl⟩)) (fun _ h => h) (k2.hp.con M hk')
        · by_cases hE : M = L
          · by_cases hE' : M' = L
            · rw [hE, hE']
            · exfalso
              rw [hE, hβ3] at hb
              exact t3 M' (has4 M' hE' hM') hb.symm
          · by_cases hE' : M' = L
            · exfalso
              rw [hE', hβ3] at hb
              exact t3 M (has4 M hE hM) hb
            · exact k2.hp.inj M M' (has4 M hE hM) (has4 M' hE' hM') hb
      refine ⟨_, _, run_endRound jump hrow3, _, .bool b, st3.hp.back L (.lp slots n ps asg bd s'), B3, e3, rfl, ?_, ?_, by rw [hb]; exact .bool _, hK⟩
      · rw [ho4] at hh4; exact hh4
      · rw [ho4] at xx; exact xx
    cases ex2 with
    | normal =>
      simp only [toEx, Option.some.injEq] at hx2; subst hx2
      exact finish none .ready rfl true rfl (k1 fun f t => Nat.le_trans (g3.cnt f t) (k3.cnt f t))
    | exit id =>
      simp only [toEx, Option.some.injEq] at hx2; subst hx2
      exact finish (some (.exit id)) (.done (.exit id)) rfl false rfl (k1 fun f t => Nat.le_trans (g3.cnt f t) (k3.cnt f t))
    | ret =>
      simp only [toEx, Option.some.injEq] at hx2; subst hx2
      exact finish (some .ret) (.done .ret) rfl false rfl (k1 fun f t => Nat.le_trans (g3.cnt f t) (k3.cnt f t))
    | goto l => simp [toEx] at hx2
    | panic ch => simp [toEx] at hx2
    | outgrown => simp [toEx] at hx2
  cases ex with
  | normal =>
    simp only [toEx, Option.some.injEq] at hx'; subst hx'
    exact key g1
  | exit id => simp only [toEx, Option.some.injEq] at hx'; subst hx'; exact g1.elim
  | ret => simp only [toEx, Option.some.injEq] at hx'; subst hx'; exact g1.elim
  | goto l => simp [toEx] at hx'
  | panic ch => simp [toEx] at hx'
  | outgrown => simp [toEx] at hx'
end
end Go.T
/- The rules by which simp runs ranges over functions, nil tests, min and max. -/
namespace Go.T
open Go

def YieldX (P : Program) (L : Lab) (args : List AV) (h : Hp) (K : AV → Hp → Prop) (_ : Tok K) : Prop := YieldK P L args h K
theorem YieldX.of {P : Program} {L : Lab} {args : List AV} {h : Hp} {K : AV → Hp → Prop} {u : Tok K} (hc : YieldK P L args h K) : YieldX P L args h K u := hc
@[go_sem ↓, go_sem] theorem callV_yl {P : Program} {L : Lab} {args : List AV} {h : Hp} {K : AV → Hp → Prop} : callV P (.yl L) args h K = YieldX P L args h K ⟨⟩ := propext Iff.rfl

section
variable {P : Program} {fid : Nat} {T : Nat → List Tg} {Q : Ex → St → Prop} {st : St}
@[go_sem ↓, go_sem] theorem awp_range {g : Operand} {ps : List Nat} {asg body : Code} : awp P fid T (.rangeFunc g (List.toArray ps) asg body) Q st = rangeK P fid (st.ev g) ps asg body Q st := by simp [awp]
@[go_sem ↓, go_sem] theorem rangeK_fn {gf : Nat} {caps : List AV} {ps : List Nat} {asg body : Code} : rangeK P fid (.fn (.func gf) caps) ps asg body Q st = (hasBody P gf = true ∧ CallX P gf (.yl ⟨fid, lpSlot, st.hp.cnt fid lpSlot⟩ :: caps) (st.hp.alloc fid lpSlot (.lp st.slots (ntm P fid) ps asg body .ready))
      (fun _ h => endLpC (h.con ⟨fid, lpSlot, st.hp.cnt fid lpSlot⟩) (fun x => Q x ⟨st.slots, h.set ⟨fid, lpSlot, st.hp.cnt fid lpSlot⟩ .none⟩)) ⟨⟩) := propext Iff.rfl
@[congr] theorem rangeK_congr {g g' : AV} {ps : List Nat} {asg body : Code} (e : g = g') : rangeK P fid g ps asg body Q st = rangeK P fid g' ps asg body Q st := by subst e; rfl
end
section
variable {K : Ex → Prop} {sl : Nat → AV} {n : Nat} {ps : List Nat} {asg body : Code}
end
@[go_sem ↓, go_sem] theorem asgQ_n {N : St → Prop} {s : St} : asgQ N .normal s = N s := propext Iff.rfl
section
variable {L : Lab} {slots : Nat → AV} {n : Nat} {ps : List Nat} {asg body : Code} {K : AV → Hp → Prop} {s : St}
end
@[go_sem] theorem putS_cons {p ps a aas st} : putS (p :: ps) (a :: aas) st = putS ps aas (st.put (some p) a) := by simp [putS]
@[go_sem] theorem putS_nil {aas st} : putS [] aas st = st := by simp [putS]
@[go_sem] theorem ofVal_nilf : AV.ofVal .nilFunc = .nilf := by simp [AV.ofVal]

/- Tests for nil. -/
def nilK (k : TK) (x : AV) (K : Bool → Prop) : Prop := match k, x with
  | .pointer, .ip _ => K false
  | .pointer, .pt _ _ _ _ => K false
  | .pointer, .nilp => K true
  | .func, .fn _ _ => K false
  | .func, .nilf => K true
  | _, _ => False
def nilL (k : TK) (yn : Bool) (xs : List AV) (K : Bool → Prop) : Prop := match k with
  | .slice _ => yn = true ∧ (xs = [] → K true) ∧ K false
  | _ => False
section
variable {P : Program} {t : TypeId} {y : Operand} {K : AV → Prop}
@[go_sem ↓, go_sem] theorem nilK_ip {cs} {K : Bool → Prop} : nilK .pointer (.ip cs) K = K false := propext Iff.rfl
@[go_sem ↓, go_sem] theorem nilL_s {el yn xs} {K : Bool → Prop} : nilL (.slice el) yn xs K = (yn = true ∧ (xs = [] → K true) ∧ K false) := propext Iff.rfl
@[congr] theorem nilK_congr {k k' : TK} {x : AV} {K : Bool → Prop} (e : k = k') : nilK k x K = nilK k' x K := by subst e; rfl
@[congr] theorem nilL_congr {k k' : TK} {yn yn' : Bool} {xs : List AV} {K : Bool → Prop} (e : k = k') (e1 : yn = yn') : nilL k yn xs K = nilL k' yn' xs K := by subst e; subst e1; rfl
@[go_sem] theorem nilSlice_s {a b} : nilSlice (.const (.slice .none a b)) = true := by simp [nilSlice]
@[go_sem ↓, go_sem] theorem bin_ip_eq {cs} : binK (EqI.mk' P t y) .eql (.ip cs) .nilp K = nilK (tk P t) (.ip cs) (fun b => K (.bool b)) := by
  simp only [binK, EqI.mk']; unfold eqK nilK; cases tk P t <;> rfl
@[go_sem ↓, go_sem] theorem bin_ip_ne {cs} : binK (EqI.mk' P t y) .neq (.ip cs) .nilp K = nilK (tk P t) (.ip cs) (fun b => K (.bool (!b))) := by
  simp only [binK, EqI.mk']; unfold eqK nilK; cases tk P t <;> rfl
@[go_sem ↓, go_sem] theorem bin_l_eq {a b xs c d ys} : binK (EqI.mk' P t y) .eql (.l a b xs) (.l c d ys) K = nilL (tk P t) (nilSlice y) xs (fun b => K (.bool b)) := by
  simp only [binK, EqI.mk']; unfold eqK nilL; cases tk P t <;> rfl
end
section
variable {P : Program} {fid : Nat} {d : Option Nat} {ty : TypeId} {ps : String} {af : Array Edge} {g : Option (Nat × Bool)} {st : St} {K : St → Prop}
end
/- The record under a name. -/
section
variable {L : Lab} {c : Con} {K : AV → Hp → Prop} {s : St}
end
theorem lt_of_con {h : Hp} {L : Lab} {c : Con} (hc : h.con L = c) (hn : c ≠ .none) : L.k < h.cnt L.f L.s := by
  rcases Nat.lt_or_ge L.k (h.cnt L.f L.s) with h1 | h1
  · exact h1
  · exact absurd (hc.symm.trans (h.ok L h1)) hn
theorem ne_lpSlot {n : Nat} (h : n < 1000000) : (n = lpSlot) = False := by
  unfold lpSlot; simp; omega
end Go.T
/- Freezing lists of own slices. -/
namespace Go.T
open Go
theorem Le.ip {cs ds : List AV} (hl : ds.length = cs.length) (hc : ∀ j, j < cs.length → Le (cs.getD j .undef) (ds.getD j .undef)) : Le (.ip cs) (.ip ds) := by
  intro w B e h v hR
  cases hR with
  | ip _ b off vs h1 h2 h3 => exact .ip ds b off vs h1 (fun j hj => h2 j (hl ▸ hj)) (fun j hj => hc j (hl ▸ hj) _ _ _ _ _ (h3 j (hl ▸ hj)))
  | ref _ _ hr => exact hr.elim
theorem Le.lst {ex : Bool} {sz : Nat} {xs ys : List AV} (hl : ys.length = xs.length) (hc : ∀ i (hi : i < xs.length), (ys[i]).cells.length = (xs[i]).cells.length ∧ ∀ j, Le ((xs[i]).cells.getD j .undef) ((ys[i]).cells.getD j .undef)) : Le (.l ex sz xs) (.l ex sz ys) := by
  intro w B e h v hR
  cases hR with
  | l0 _ _ a c hx =>
    have : ys = [] := List.length_eq_zero_iff.1 (by simpa using hl)
    subst this; exact .l0 _ _ _ _ hx
  | l _ _ _ b off cap vs h1 h2 h3 h4 h5 h6 h7 h8 =>
    rw [← hl]
    exact .l ex sz ys b off cap vs (fun h0 => h1 (List.length_eq_zero_iff.1 (by rw [← hl, h0]; rfl))) (fun hx => by rw [hl]; exact h2 hx) (by rw [hl]; exact h3) h4 (fun i hi => by rw [(hc i (hl ▸ hi)).1]; exact h5 i (hl ▸ hi)) (fun i j hi hj => h6 i j (hl ▸ hi) hj)
      (fun i j hi hj => (hc i (hl ▸ hi)).2 j _ _ _ _ _ (h7 i j (hl ▸ hi) hj)) (fun i j hi hj => h8 i j (hl ▸ hi) hj)
  | ref _ _ hr => exact hr.elim
theorem frzs_id {ds : List AV} (hd : ∀ d ∈ ds, ∀ L c, d.frz L c = d) (L : Lab) (c : Con) : AV.frzs L c ds = ds := by
  rw [frzs_map]; conv => rhs; rw [← List.map_id ds]
  exact List.map_congr_left fun d hdm => hd d hdm L c
theorem Frz.list {mk : List AV → AV} (hmk : ∀ L c xs, (mk xs).frz L c = mk (AV.frzs L c xs)) (h0 : Hp) : ∀ (n : Nat) (rem : List (AV × AV)) (ds : List AV) (h : Hp) (fin : Hp → AV → Prop), rem.length = n →
    (∀ d ∈ ds, ∀ L c, d.frz L c = d) → Keeps h0 h →
    (∀ p ∈ rem, (∀ L c, p.2.frz L c = p.2) ∧ (p.1 = p.2 ∨ ∃ L sz xs, p.1 = .os L ∧ h0.con L = .none ∧ h.con L = .arr sz xs ∧ p.2 = .l false sz xs)) →
    (∀ h', Keeps h0 h' → ∃ r, Le (mk (ds ++ rem.map Prod.snd)) r ∧ fin h' r) →
    ∃ h' r, Frz h (mk (ds ++ rem.map Prod.fst)) h' r ∧ Keeps h0 h' ∧ fin h' r := by
  intro n
  induction n with
  | zero =>
    intro rem ds h fin hn hd hk hr hf
    have : rem = [] := List.length_eq_zero_iff.1 hn
    subst this
    obtain ⟨r, h1, h2⟩ := hf h hk
    exact ⟨h, r, .done _ _ _ h1, hk, h2⟩
  | succ n ih =>
    intro rem ds h fin hn hd hk hr hf
    cases rem with
    | nil => simp at hn
    | cons p rest =>
      have hn' : rest.length = n := by simpa using hn
      obtain ⟨hp2, hp1⟩ := hr p (by simp)
      rcases hp1 with hE | ⟨L, sz, xs, hE, hL0, hL, hv⟩
      · have := ih rest (ds ++ [p.2]) h fin hn' (fun d hdm => by
          rcases List.mem_append.1 hdm with hdm | hdm
          · exact hd d hdm
          · simp at hdm; subst hdm; exact hp2) hk (fun q hq => hr q (by simp [hq])) (by simpa using hf)
        simpa [hE] using this
      · have hk' : Keeps h0 (h.set L .none) := hk.set hL0 .none
        have := ih (rest.map fun q => (q.1.frz L (h.con L), q.2)) (ds ++ [p.2]) (h.set L .none) fin (by simpa using hn') (fun d hdm => by
          rcases List.mem_append.1 hdm with hdm | hdm
          · exact hd d hdm
          · simp at hdm; subst hdm; exact hp2) hk' (fun q hq => by
          obtain ⟨q0, hq0, rfl⟩ := List.mem_map.1 hq
          obtain ⟨g1, g2⟩ := hr q0 (by simp [hq0])
          refine ⟨g1, ?_⟩
          rcases g2 with g2 | ⟨M, sz', xs', k1, k2, k3, k4⟩
          · left; simp only; rw [g2, g1]
          · by_cases hM : M = L
            · subst hM; left; simp only [k1, k4, k3, AV.frz, if_true]
            · right
              refine ⟨M, sz', xs', ?_, k2, ?_, k4⟩
              · simp only [k1, AV.frz, hM, if_false]
              · rw [set_con_ne hM]; exact k3) (by simpa [List.map_map, Function.comp_def] using hf)
        obtain ⟨h', r, f1, f2, f3⟩ := this
        refine ⟨h', r, .step _ L _ _ _ ?_, f2, f3⟩
        have e1 : (mk (ds ++ (p :: rest).map Prod.fst)).frz L (h.con L) = mk (ds ++ [p.2] ++ (rest.map fun q => (q.1.frz L (h.con L), q.2)).map Prod.fst) := by
          rw [hmk, frzs_map, List.map_append, ← frzs_map, frzs_id hd]
          simp only [List.map_cons, hE, AV.frz, if_true, hL, List.map_map, Function.comp_def, hv, List.append_assoc, List.singleton_append]
        rw [e1]; exact f1
end Go.T
/- slices.Sort at ints, by the library's contract. -/
namespace Go.T
open Go Go.Proofs Go.Shelf Go.Sort
theorem Ext.grow {w : World} {B : Nat → Prop} {e : Env} {h : Hp} (os : Array Obj) : Ext w B e h (Go.Sort.grow w os) B e h where
  size := by simp [Go.Sort.grow]
  os := rfl
  tape := rfl
  output := rfl
  bsub _ h := h
  bnew _ h := .inl h
  keep b hb _ := heap_grow_old _ _ hb
  onew L hL := .inl ⟨L, hL, rfl⟩
  cnt _ _ := Nat.le_refl _
  env _ _ := ⟨rfl, rfl⟩
  live _ _ h := h
theorem HRel.grow {w : World} {B : Nat → Prop} {e : Env} {h : Hp} (hh : HRel w B e h) (os : Array Obj) : HRel (Go.Sort.grow w os) B e h := by
  refine hh.free (by simp [Go.Sort.grow]) fun b hb => heap_grow_old _ _ ?_
  rcases hb with hb | ⟨L, hL, rfl⟩
  · exact hh.bnd b hb
  · exact (hh.lt hL).1
theorem putCells_getD (zs : List Int) (off k : Nat) (c : Array Value) (hk : k < c.size) :
    (putCells (Value.int .i64) off zs.toArray c).getD k undef = if off ≤ k ∧ k < off + zs.length then Value.int .i64 (zs.getD (k - off) 0) else c.getD k undef := by
  simp only [putCells, Array.getD_eq_getD_getElem?]
  rw [Array.getElem?_mapIdx, Array.getElem?_eq_getElem hk]
  simp only [Option.map_some, Option.getD_some, List.size_toArray]
  by_cases hc : off ≤ k ∧ k < off + zs.length
  · rw [if_pos hc, if_pos hc]
    have : k - off < zs.length := by omega
    simp [this]
  · rw [if_neg hc, if_neg hc]
theorem CallK.sortInts {P : Program} {ρ : Ren} (Ly : Lays.n189 P ρ) {f : FuncId} (hf : ρ.f 189 = f) (L : Lab) (xs : List Int) (hne : xs ≠ []) (hlen : xs.length < 2 ^ 60) (h : Hp) (hL : h.con L = .arr 1 (xs.map (AV.int .i64))) (K : AV → Hp → Prop)
    (hK : K (.tup []) (h.set L (.arr 1 ((xs.mergeSort (fun x y => decide (x ≤ y))).map (AV.int .i64))))) : CallK P f [.os L] h K := by
  subst hf
  intro w B e vs hh hs hR
  have r0 := hR 0 (by simp)
  simp only [List.getD_cons_zero] at r0
  cases r0 with
  | ref _ _ hr =>
    obtain ⟨hk, _, hl⟩ := hr
    have hlive : (h.con L).live := by rw [hL]; trivial
    have hv := hl hlive
    have hc := hh.con L hk
    rw [hL] at hc
    obtain ⟨a, cap, hη, hle, hcells, hcase⟩ := hc
    have hpos : 0 < xs.length := List.length_pos_iff.2 hne
    rw [List.length_map] at hle hη
    rcases hcase with h0 | ⟨ha, hsp, hnB, vs', T, hb, hsz, hrow⟩
    · omega
    have hβ : e.β L = ⟨(e.β L).block, (e.β L).off, .none⟩ := by
      cases hx : e.β L with
      | mk b o s => rw [hx] at hsp; simp only at hsp; subst hsp; rfl
    generalize hbk : (e.β L).block = blk at *
    generalize hof : (e.β L).off = off at *
    have hcap : off + xs.length ≤ vs'.size := by omega
    have hcell : ∀ j (hj : j < xs.length), vs'.getD (off + j) undef = .int .i64 xs[j] := by
      intro j hj
      have := (hrow j 0 (by simpa using hj) (by omega)).1
      simp only [List.getElem_map, AV.cells, List.getD_cons_zero, Nat.mul_one, Nat.add_zero] at this
      exact R_int this
    have hblk : blk < w.heap.size := (Array.getElem?_eq_some_iff.1 hb).1
    have hH : Holds (Value.int .i64) w blk off xs.toArray := by
      intro j hj
      have hj' : j < xs.length := by simpa using hj
      refine ⟨?_, by simp [World.frozen?, hb]⟩
      have := hcell j hj'
      rw [Array.getD_eq_getD_getElem?, Array.getElem?_eq_getElem (by omega)] at this
      simp only [World.cell?, hb, Option.isSome_none, Bool.false_eq_true, if_false]
      rw [Array.getElem?_eq_getElem (by omega)]
      simp at this
      simp [this, hj']
    have hvs : vs = #[.slice (some ⟨blk, off, none⟩) xs.length cap] := by
      apply Array.ext
      · simpa using hs
      · intro i hi1 hi2
        have hi : i = 0 := by simp at hi2; omega
        subst hi
        rw [hη, ha, hβ] at hv
        rw [Array.getD_eq_getD_getElem?, Array.getElem?_eq_getElem hi1] at hv
        simpa using hv
    subst hvs
    refine (Any.slices_Sort_int Ly blk off cap xs w hH hblk (by omega)).mono ?_
    rintro en w' ⟨rfl, n, os, rfl⟩
    generalize hys : xs.mergeSort (fun x y => decide (x ≤ y)) = ys at hK ⊢
    have hyl : ys.length = xs.length := by rw [← hys, List.length_mergeSort]
    have hhas : e.has h L := ⟨hk, by rw [hL]; exact ⟨_, _, _, hη, by omega⟩⟩
    have hheap : ∀ b, b ≠ blk → (putRow (Value.int .i64) (Sort.ahead w n) blk off ys.toArray).heap[b]? = w.heap[b]? := by
      intro b hb'
      simp [putRow, mapBlock, Sort.ahead, Array.getElem?_modify, Ne.symm hb']
    have hhit : (putRow (Value.int .i64) (Sort.ahead w n) blk off ys.toArray).heap[blk]? = some (.cells (putCells (Value.int .i64) off ys.toArray vs') T (0, 0)) := by
      simp [putRow, mapBlock, Sort.ahead, Array.getElem?_modify, hb, onCells]
    have hsize : (putRow (Value.int .i64) (Sort.ahead w n) blk off ys.toArray).heap.size = w.heap.size := by simp [putRow, mapBlock, Sort.ahead]
    have x1 := Ext.write (B := B) (c := .arr 1 (ys.map (AV.int .i64))) hhas hlive hsize rfl rfl rfl (by rw [hbk]; exact hheap)
    have hhas' : e.has (h.set L (.arr 1 (ys.map (AV.int .i64)))) L := ⟨hk, by rw [set_con_eq hlive]; exact ⟨_, _, _, hη, by omega⟩⟩
    have h1 := hh.write hhas hlive hsize rfl rfl rfl (by rw [hbk]; exact hheap) hhas' (by
      refine ⟨a, cap, by rw [hη, List.length_map, hyl], by rw [List.length_map]; omega, fun i hi => by simp [AV.cells], .inr ⟨ha, hsp, hbk ▸ hnB, putCells (Value.int .i64) off ys.toArray vs', T, by rw [hbk]; exact hhit, by rw [hof]; simpa [putCells] using hsz, ?_⟩⟩
      intro i j hi hj
      have hi' : i < ys.length := by simpa using hi
      have hj' : j = 0 := by omega
      subst hj'
      rw [hof, putCells_getD _ _ _ _ (by omega), if_pos (by omega)]
      simp [AV.cells, hi', List.getD_eq_getElem?_getD, show off + i - off = i by omega]
      exact ⟨.int _ _, by simp [Value.oneCell']⟩)
    have x2 := x1.trans (Ext.grow (B := B) (e := e) (h := h.set L (.arr 1 (ys.map (AV.int .i64)))) os)
    exact ⟨.tuple #[], .tup [], _, B, e, rfl, h1.grow os, x2, .tup _ _ rfl (fun j hj => absurd hj (by simp)), hK⟩
  | _ => skip
end Go.T
/- What a law is handed: plain values out of the memory, type by type. -/
namespace Go.T
open Go Go.RowKit

def NoE : AV → Value → Prop := fun _ _ => False
def InB (w : World) (b : Nat) : Prop := b < w.heap.size
/-- A value of type t in memory is read aas one of X. -/
def Opn (P : Program) (t : TypeId) (X : Type) (e : X → List AV) (V : X → Prop) : Prop :=
  ∀ (H : Type) (enc : TypeId × Value → H) (w : World) (spare : Nat → Bool) (held : Bool) (fuel : Nat) (cs : List Value) (x : DataW H × List MemPlace), DataW.trod enc P w 0 spare held fuel t cs = some x →
    ∃ y : X, V y ∧ (e y).length = cs.length ∧ ∀ j, j < cs.length → R w (InB w) NoE ((e y).getD j .undef) (cs.getD j undef) ∧ (cs.getD j undef).oneCell' = true
section
variable {P : Program} {t : TypeId}
theorem Opn.int {k : IntKind} (ht : P.underlying t = some (.int k)) : Opn P t Int (fun n => [.int k n]) (fun n => (Lit.int k n).wf = true) := by
  intro H enc w spare held fuel cs x h
  obtain ⟨n, rfl, _, hw⟩ := DataW.trod_int ht h
  refine ⟨n, hw, rfl, fun j hj => ?_⟩
  have : j = 0 := by simp at hj; omega
  subst this
  exact ⟨.int k n, rfl⟩
theorem Opn.bool (ht : P.underlying t = some .bool) : Opn P t Bool (fun b => [.bool b]) (fun _ => True) := by
  intro H enc w spare held fuel cs x h
  obtain ⟨b, rfl, _⟩ := DataW.trod_bool ht h
  refine ⟨b, trivial, rfl, fun j hj => ?_⟩
  have : j = 0 := by simp at hj; omega
  subst this
  exact ⟨.bool b, rfl⟩
theorem Opn.iso {X Y : Type} {e : X → List AV} {V : X → Prop} {e' : Y → List AV} {V' : Y → Prop} (o : Opn P t X e V) (g : X → Y) (he : ∀ x, e' (g x) = e x) (hV : ∀ x, V x → V' (g x)) : Opn P t Y e' V' := by
  intro H enc w spare held fuel cs x h
  obtain ⟨y, h1, h2, h3⟩ := o H enc w spare held fuel cs x h
  exact ⟨g y, hV y h1, by rw [he]; exact h2, fun j hj => by rw [he]; exact h3 j hj⟩

/-- Cells aas one value. -/
def pack (g : Bool) (aas : List AV) : AV := if g then .agg aas else aas.getD 0 .undef

theorem cells_row {w : World} {a : Addr} {n : Nat} {cs : List Value} (h : w.cells? 0 a n = some cs) : cs.length = n ∧ ∀ i, i < n → w.cell? (a.add i) = some (cs.getD i undef) := by
  unfold World.cells? at h
  rw [if_pos (Nat.zero_le _)] at h
  have hl := mapM_some_length h
  simp at hl
  refine ⟨hl, fun i hi => ?_⟩
  have h2 := mapM_some_get h i i (by simp [hi])
  rw [h2]
  have : i < cs.length := by omega
  simp [this]

theorem list_choose {X : Type} {Q : Nat → X → Prop} : ∀ n, (∀ i, i < n → ∃ y, Q i y) → ∃ ys : List X, ys.length = n ∧ ∀ i, (hi : i < ys.length) → Q i ys[i] := by
  intro n
  induction n with
  | zero => intro _; exact ⟨[], rfl, fun i hi => by simp at hi⟩
  | succ n ih =>
    intro h
    obtain ⟨ys, h1, h2⟩ := ih (fun i hi => h i (by omega))
    obtain ⟨y, hy⟩ := h n (by omega)
    refine ⟨ys ++ [y], by simp [h1], fun i hi => ?_⟩
    rw [List.getElem_append]
    split
    · rename_i hlt; exact h2 i hlt
    · rename_i hge
      have : i = n := by simp at hi; omega
      subst this
      simpa using hy

theorem Opn.slice {el : TypeId} {sz : Nat} {X : Type} {e : X → List AV} {V : X → Prop} (ht : P.underlying t = some (.slice el)) (hc : P.cellsOf el = sz) (hs : 0 < sz) (g : Bool) (o : Opn P el X e V) (hp : ∀ x, V x → (pack g (e x)).cells = e x) :
    Opn P t (List X) (fun ys => [.l false sz (ys.map (fun x => pack g (e x)))]) (fun ys => (∀ x ∈ ys, V x) ∧ ys.length ≤ maxLen) := by
  intro H enc w spare held fuel cs x h
  rcases DataW.trod_slice ht h with ⟨rfl, _⟩ | ⟨a, len, cap, elems, rest, n, _, rfl, _, _, hl, hm, hlen, hel, _, _⟩
  · refine ⟨[], ⟨fun x hx => by simp at hx, by simp⟩, rfl, fun j hj => ?_⟩
    have : j = 0 := by simp at hj; omega
    subst this
    exact ⟨.l0 _ _ _ _ (fun h => by simp at h), rfl⟩
  · rw [hc] at hel
    have each : ∀ i, i < len → ∃ y : X, V y ∧ (e y).length = sz ∧ ∃ cs', w.cells? 0 (a.add (i * sz)) sz = some cs' ∧ cs'.length = sz ∧ ∀ j, j < sz → R w (InB w) NoE ((e y).getD j .undef) (cs'.getD j undef) ∧ (cs'.getD j undef).oneCell' = true := by
      intro i hi
      have h1 := hel i hi
      have h2 : i < elems.length := by omega
      rw [List.getElem?_eq_getElem h2] at h1
      rw [Option.bind_eq_some_iff] at h1
      obtain ⟨cs', hcs, htr⟩ := h1
      obtain ⟨y, g1, g2, g3⟩ := o H enc w spare held n cs' _ htr
      have hl' := (cells_row hcs).1
      exact ⟨y, g1, by omega, cs', hcs, hl', fun j hj => g3 j (by omega)⟩
    obtain ⟨ys, hys, hq⟩ := list_choose len each
    refine ⟨ys, ⟨fun x hx => ?_, by omega⟩, rfl, fun j hj => ?_⟩
    · obtain ⟨i, hi, rfl⟩ := List.getElem_of_mem hx
      exact (hq i hi).1
    have : j = 0 := by simp at hj; omega
    subst this
    refine ⟨?_, rfl⟩
    show R w (InB w) NoE (.l false sz (ys.map (fun x => pack g (e x)))) (.slice (some a) len cap)
    by_cases h0 : len = 0
    · subst h0
      have : ys = [] := List.length_eq_zero_iff.1 hys
      subst this
      exact .l0 _ _ _ _ (fun h => by simp at h)
    have hy0 : ys ≠ [] := fun hE => by rw [hE] at hys; simp at hys; omega
    have cellAt : ∀ i j, (hi : i < ys.length) → j < sz → w.cell? ((a.add (i * sz)).add j) = some ((Classical.choose (hq i hi).2.2).getD j undef) := fun i j hi hj =>
      (cells_row (Classical.choose_spec (hq i hi).2.2).1).2 j hj
    have hlt : 0 < ys.length := by omega
    have hspot : a.spot = .none := by
      have := cellAt 0 0 hlt hs
      unfold World.cell? at this
      split at this
      · split at this
        · simp at this
        · rename_i hsp
          cases hc : a.spot with
          | none => rfl
          | some z => exact absurd (by simp [Addr.add, hc]) hsp
      · simp at this
    have hblk : a.block < w.heap.size := by
      have := cellAt 0 0 hlt hs
      unfold World.cell? at this
      split at this
      · rename_i hh
        have h9 := (Array.getElem?_eq_some_iff.1 hh).1
        cases hsp : a.spot <;> simpa [Addr.add, hsp] using h9
      · simp at this
    obtain ⟨ab, ao, asp⟩ := a
    simp only at hspot hblk
    subst hspot
    have hadd : ∀ i j, ((Addr.mk ab ao .none).add (i * sz)).add j = ⟨ab, ao + (i * sz + j), .none⟩ := fun i j => by
      by_cases h1 : i * sz = 0 <;> by_cases h2 : j = 0 <;> simp [Addr.add, h1, h2, Nat.add_assoc]
    have := R.l (w := w) (B := InB w) (E := NoE) false sz (ys.map (fun x => pack g (e x))) ab ao cap (fun i j => if hi : i < ys.length then (Classical.choose (hq i hi).2.2).getD j undef else undef) (by simpa using hy0) (fun h => by simp at h) (by simp; omega) hblk
      (fun i hi => by
        have hi' : i < ys.length := by simpa using hi
        simp only [List.getElem_map]
        rw [hp _ (hq i hi').1]; exact (hq i hi').2.1)
      (fun i j hi hj => by
        have hi' : i < ys.length := by simpa using hi
        simp only [hi', dif_pos]
        rw [← hadd]; exact cellAt i j hi' hj)
      (fun i j hi hj => by
        have hi' : i < ys.length := by simpa using hi
        simp only [hi', dif_pos, List.getElem_map]
        rw [hp _ (hq i hi').1]
        exact ((Classical.choose_spec (hq i hi').2.2).2.2 j hj).1)
      (fun i j hi hj => by
        have hi' : i < ys.length := by simpa using hi
        simp only [hi', dif_pos]
        exact ((Classical.choose_spec (hq i hi').2.2).2.2 j hj).2)
    rw [List.length_map, hys] at this
    exact this

end

/-- The heap that knows of nothing. -/
def Hp0 : Hp := ⟨fun _ => .none, fun _ _ => 0, fun _ _ => rfl⟩
def Env0 : Env := ⟨fun _ => default, fun _ => undef⟩
theorem HRel0 (w : World) : HRel w (InB w) Env0 Hp0 :=
  ⟨fun L hk => by simp [Hp0] at hk, fun L L' hL _ _ => by have := hL.1; simp [Hp0] at this, fun b hb => hb⟩
theorem Opn.arg {P : Program} {t : TypeId} {X : Type} {a : X → AV} {V : X → Prop} (o : Opn P t X (fun x => [a x]) V) {H : Type} {enc : TypeId × Value → H} {w : World} {spare : Nat → Bool} {held : Bool} {v : Value} {d : DataW H} {p : List MemPlace}
    (hv : v.cells = #[v]) (h : DataW.Trod enc P w 0 spare held t v d p) : ∃ y : X, V y ∧ R w (InB w) (Env0.E Hp0) (a y) v := by
  obtain ⟨fuel, h⟩ := h
  obtain ⟨y, h1, _, h3⟩ := o H enc w spare held fuel _ _ h
  rw [hv] at h3
  exact ⟨y, h1, (h3 0 (by simp)).1.mono (fun _ _ => rfl) (fun _ hb => hb) (fun _ _ he => he.elim)⟩
theorem Ext0.below {w w' : World} {B' : Nat → Prop} {e' : Env} {h' : Hp} (x : Ext w (InB w) Env0 Hp0 w' B' e' h') : Below w.heap.size w w' :=
  ⟨x.os, x.tape, x.output, x.size, fun k hk => x.keep k hk (fun L hL => by have := hL.1; simp [Hp0] at this)⟩
/-- **A law that answers true.** -/
theorem law_calls {P : Program} {f : FuncId} {args : List AV} (hp : PureF P f args (.bool true)) (w : World) (vs : Array Value) (hs : vs.size = args.length) (hR : ∀ i, i < args.length → R w (InB w) (Env0.E Hp0) (args.getD i .un) (vs.getD i undef)) :
    Calls P f vs w (fun e w' => e = .returned (.bool true) ∧ Below w.heap.size w w') := by
  refine (hp Hp0 w (InB w) Env0 vs (HRel0 w) hs hR).mono ?_
  rintro en w' ⟨v, r, h', B', e', rfl, g2, g3, g4, rfl, _⟩
  have := R_bool g4
  subst this
  exact ⟨rfl, Ext0.below g3⟩
end Go.T
