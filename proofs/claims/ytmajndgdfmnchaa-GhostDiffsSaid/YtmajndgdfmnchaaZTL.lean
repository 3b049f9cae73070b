/- States: what can be. -/
import Derived.Test.YtmajndgdfmnchaaZTK
namespace Go.Gh
def meantB (n k : Int) (m : Msg) : Bool := decide (0 ≤ m.obj ∧ m.obj < k) && withinB m.node 0 (n - 1) && withinB m.where' 0 (n - 1)
def lastOk (o : Own) : Bool := match o.cells.getLast? with
  | none => true
  | some c => decide (c.num ≤ o.made)
def ownB (ps : List Int) (me : Int) (o : Own) : Bool :=
  (o.arrow == me || decide (o.arrow ∈ nbr ps me)) && withinB o.made 0 1099511627776 && goodC o.cells me (o.arrow == me) && o.cells.all (fun c => decide (c.node < ps.length)) && lastOk o
def openS (os : List Own) : Nat := (os.map fun o => openN o.cells).sum
def edgeB (n k : Int) (p : Int × Sid) : Bool := p.2.peer == p.1 && goodE p.2 && p.2.out.all (meantB n k)
def edgesB (ps : List Int) (s : Nst) : Bool := (nbr ps s.me).length == s.edges.length && ((nbr ps s.me).zip s.edges).all (edgeB ps.length s.objs.length)
def asksB (k asked : Int) : Int → List Ask → Bool
  | _, [] => true
  | last, a :: r => withinB a.obj 0 (k - 1) && !decide (a.num ≤ last) && !decide (a.num > asked) && asksB k asked a.num r
def foundB (n k asked : Int) (f : Found) : Bool := withinB f.obj 0 (k - 1) && withinB f.num 1 asked && withinB f.where' 0 (n - 1)
def goodS (ps : List Int) (s : Nst) : Bool :=
  withinB s.me 0 (ps.length - 1) && withinB s.objs.length 1 8 && withinB s.asked 0 1099511627776 && decide (s.asks.length ≤ 4) && decide (s.got.length ≤ 4) &&
  s.objs.all (ownB ps s.me) && asksB s.objs.length s.asked 0 s.asks && s.got.all (foundB ps.length s.objs.length s.asked) && edgesB ps s && decide (openS s.objs ≤ 8)
/-- What lists can be long. -/
structure Sized (s : Nst) : Prop where
  objs : s.objs.length ≤ 9223372036854775807
  edges : s.edges.length ≤ 9223372036854775807
  asks : s.asks.length ≤ 9223372036854775807
  got : s.got.length ≤ 9223372036854775807
  cells : ∀ o ∈ s.objs, o.cells.length ≤ 9223372036854775807
  out : ∀ e ∈ s.edges, e.out.length ≤ 9223372036854775807
theorem goodE_len {e : Sid} (h : goodE e = true) : e.out.length ≤ 1024 := by
  unfold goodE at h; simp only [Bool.and_eq_true, decide_eq_true_eq] at h; exact h.1.1.2
end Go.Gh
namespace Go.Proofs.Ytmajndgdfmnchaa
open Go Go.T Go.Gh Go.Proofs
set_option linter.unusedSimpArgs false
set_option maxRecDepth 10000
def encO (o : Gh.Own) : AV := .agg [.int .i64 o.arrow, .int .i64 o.made, .l false 4 (o.cells.map encC)]
theorem encO_cells (o : Gh.Own) : (encO o).cells = [.int .i64 o.arrow, .int .i64 o.made, .l false 4 (o.cells.map encC)] := by simp [encO, AV.cells]
def encA (a : Gh.Ask) : AV := .agg [.int .i64 a.obj, .int .i64 a.num]
theorem encA_cells (a : Gh.Ask) : (encA a).cells = [.int .i64 a.obj, .int .i64 a.num] := by simp [encA, AV.cells]
def encF (f : Gh.Found) : AV := .agg [.int .i64 f.obj, .int .i64 f.num, .int .i64 f.where']
theorem encF_cells (f : Gh.Found) : (encF f).cells = [.int .i64 f.obj, .int .i64 f.num, .int .i64 f.where'] := by simp [encF, AV.cells]
def encS (s : Nst) : AV := .agg [.int .i64 s.me, .l false 3 (s.objs.map encO), .l false 4 (s.edges.map encE), .int .i64 s.asked, .l false 2 (s.asks.map encA), .l false 3 (s.got.map encF)]
theorem encS_cells (s : Nst) : (encS s).cells = [.int .i64 s.me, .l false 3 (s.objs.map encO), .l false 4 (s.edges.map encE), .int .i64 s.asked, .l false 2 (s.asks.map encA), .l false 3 (s.got.map encF)] := by simp [encS, AV.cells]
theorem ContainsFunc_Msg_at {g : Nat} {caps : List AV} (p : Msg → Bool) (ns : List Msg) (ex : Bool) (hlen : ns.length < 2 ^ 61) (h : Hp) (hb : hasBody Try.prog g = true)
    (hf : ∀ x ∈ ns, CallK Try.prog g ([encM x] ++ caps) h (fun r h' => r = .bool (p x) ∧ h' = h)) :
    CallK Try.prog 109 [.l ex 5 (ns.map encM), .fn (.func g) caps] h (fun r h' => r = .bool (ns.any p) ∧ h' = h) := by
  refine PureAt.of_awp mixed (fun _ => []) (fn := Try.f109) (by kernel_rfl) rfl (by kernel_rfl) (by show 2 ≤ _; decide) (by simp [AV.lf]) ?_
  repeat' first
    | (with_reducible refine CondX.dec (fun c => ?_) (fun c => ?_)) <;> try (exfalso; omega)
    | (with_reducible refine CondX.beq (fun c => ?_) (fun c => ?_)) <;> try (exfalso; omega)
    | (with_reducible refine CondX.bne (fun c => ?_) (fun c => ?_)) <;> try (exfalso; omega)
    | (with_reducible refine CondX.bool (fun c => ?_) (fun c => ?_)) <;> try (exfalso; omega)
    | ((with_reducible refine CallX.id ?_); first | refine CallX.at (f125_at p ns ex hlen h hb hf) ?_)
    | simp only [go_sem, I_eq, I_cells, Nat.reduceAdd, Nat.reduceBEq, Nat.reduceEqDiff, Nat.reduceLeDiff, Nat.reduceLT, Nat.reduceSub]
    | simp (disch := omega) only [wrap_in, toNat_succ, toNat_pred, Int.toNat_natCast]
    | with_reducible refine And.intro (by omega) ?_
    | with_reducible refine exI (by omega) ?_
    | fail
  exact ⟨by rw [idxP_any], Keeps.refl h⟩
theorem ContainsFunc_Msg {g : Nat} {caps : List AV} (p : Msg → Bool) (ns : List Msg) (ex : Bool) (hlen : ns.length < 2 ^ 61) (hb : hasBody Try.prog g = true)
    (hf : ∀ x ∈ ns, PureF Try.prog g ([encM x] ++ caps) (.bool (p x))) : PureF Try.prog 109 [.l ex 5 (ns.map encM), .fn (.func g) caps] (.bool (ns.any p)) :=
  fun h => ContainsFunc_Msg_at p ns ex hlen h hb (fun x hx => hf x hx h)
def T111 : Nat → List Tg := fun id => if id = 1 then [.plain, .plain, .plain, .plain, .plain, .plain, .plain, .plain, .plain, .plain, .plain, .plain, .plain, .pure, .plain, .pure, .plain, .plain, .plain, .plain, .plain, .pure, .plain, .pure] else []
theorem Meant_spec (ps : List Int) (k : Int) (m : Msg) (hlen : ps.length < 2 ^ 61) : PureF Try.prog 111 [treeV ps, .int .i64 k, encM m] (.bool (meantB ps.length k m)) := by
  refine PureF.of_awp mixed T111 (fn := Try.f111) (by kernel_rfl) rfl (by kernel_rfl) (by show 3 ≤ _; decide) (by simp [AV.lf]) (fun h => ?_)
  have hwn : IntKind.i64.wrap ((ps.length : Int) - 1) = (ps.length : Int) - 1 := IntWalk.i64_in _ (by omega)
  repeat' first
    | (with_reducible refine CondX.dec (fun c => ?_) (fun c => ?_)) <;> try (exfalso; omega)
    | (with_reducible refine CondX.beq (fun c => ?_) (fun c => ?_)) <;> try (exfalso; omega)
    | (with_reducible refine CondX.bne (fun c => ?_) (fun c => ?_)) <;> try (exfalso; omega)
    | (with_reducible refine CondX.bool (fun c => ?_) (fun c => ?_)) <;> try (exfalso; omega)
    | ((with_reducible refine CallX.id ?_); first | refine CallX.pure (Size_spec ps) ?_ | refine CallX.pure (state_within_spec _ _ _) ?_)
    | ((with_reducible refine PureX.id ?_); first | refine PureX.of (Size_spec ps) ?_ | refine PureX.of (state_within_spec _ _ _) ?_)
    | simp only [go_sem, I_eq, I_cells, T111, hwn, encM, encM_cells, Nat.reduceAdd, Nat.reduceBEq, Nat.reduceEqDiff, Nat.reduceLeDiff, Nat.reduceLT, Nat.reduceSub]
    | simp (disch := omega) only [wrap_in, toNat_succ, toNat_pred, Int.toNat_natCast]
    | with_reducible refine And.intro (by omega) ?_
    | with_reducible refine exI (by omega) ?_
    | fail
  all_goals
    refine ⟨?_, by ((repeat with_reducible apply Keeps.alloc); first | assumption | exact Keeps.refl _)⟩
    simp [meantB, *]
theorem edges1_spec (ps : List Int) (s : Nst) (m : Msg) (L2 L3 : Lab) (h : Hp) (h2 : h.con L2 = .blk [treeV ps]) (h3 : h.con L3 = .blk (encS s).cells) (n2 : L2.f ≠ 110) (n3 : L3.f ≠ 110) (hlen : ps.length < 2 ^ 61) :
    CallK Try.prog 110 [encM m, .pt L2 0 0 0, .pt L3 0 0 0] h (fun r h' => r = .bool (!meantB ps.length s.objs.length m) ∧ h' = h) := by
  refine PureAt.of_awp mixed (fun _ => []) (fn := Try.f110) (by kernel_rfl) rfl (by kernel_rfl) (by show 3 ≤ _; decide) (by simp [AV.lf]) ?_
  have e2 : (L2 = ⟨110, 3, h.cnt 110 3⟩) = False := by simp; rintro rfl; exact n2 rfl
  have e3 : (L3 = ⟨110, 3, h.cnt 110 3⟩) = False := by simp; rintro rfl; exact n3 rfl
  repeat' first
    | (with_reducible refine CondX.dec (fun c => ?_) (fun c => ?_)) <;> try (exfalso; omega)
    | (with_reducible refine CondX.beq (fun c => ?_) (fun c => ?_)) <;> try (exfalso; omega)
    | (with_reducible refine CondX.bne (fun c => ?_) (fun c => ?_)) <;> try (exfalso; omega)
    | (with_reducible refine CondX.bool (fun c => ?_) (fun c => ?_)) <;> try (exfalso; omega)
    | ((with_reducible refine CallX.id ?_); first | refine CallX.pure (Meant_spec ps _ m hlen) ?_)
    | simp only [go_sem, I_eq, I_cells, encM, encS_cells, e2, e3, h2, h3, Nat.reduceAdd, Nat.reduceBEq, Nat.reduceEqDiff, Nat.reduceLeDiff, Nat.reduceLT, Nat.reduceSub]
    | simp (disch := omega) only [wrap_in, toNat_succ, toNat_pred, Int.toNat_natCast]
    | with_reducible refine And.intro (by omega) ?_
    | with_reducible refine exI (by omega) ?_
    | fail
  ((repeat with_reducible apply Keeps.alloc); first | assumption | exact Keeps.refl _)
theorem openS_le (os : List Gh.Own) (hc : ∀ o ∈ os, o.cells.length ≤ 1099511627777) : ∀ i, openS (os.take i) ≤ i * 1099511627777 := by
  intro i
  induction i with
  | zero => simp [openS]
  | succ i ih =>
    by_cases hi : i < os.length
    · rw [List.take_succ_eq_append_getElem hi]
      have h1 := openN_le os[i].cells
      have h2 := hc _ (List.getElem_mem hi)
      simp only [openS, List.map_append, List.map_cons, List.map_nil, List.sum_append, List.sum_cons, List.sum_nil] at ih ⊢
      omega
    · rw [List.take_of_length_le (by omega)]
      rw [List.take_of_length_le (by omega)] at ih
      exact Nat.le_trans ih (Nat.mul_le_mul_right _ (Nat.le_succ i))
theorem openS_next {os : List Gh.Own} {i : Nat} (hlt : i < os.length) : openS (os.take (i + 1)) = openS (os.take i) + openN os[i].cells := by
  rw [List.take_succ_eq_append_getElem hlt]; simp only [openS, List.map_append, List.map_cons, List.map_nil, List.sum_append, List.sum_cons, List.sum_nil, Nat.add_zero]
theorem Open_spec (s : Nst) (ho : s.objs.length ≤ 8) (hc : ∀ o ∈ s.objs, o.cells.length ≤ 1099511627777) : PureF Try.prog 81 [encS s] (.int .i64 (openS s.objs)) := by
  refine PureF.of_awp mixed (fun _ => []) (fn := Try.f81) (by kernel_rfl) rfl (by kernel_rfl) (by show 1 ≤ _; decide) (by simp [AV.lf]) (fun h => ?_)
  have hb := openS_le s.objs hc
  repeat' first
    | (with_reducible refine CondX.dec (fun c => ?_) (fun c => ?_)) <;> try (exfalso; omega)
    | (with_reducible refine CondX.beq (fun c => ?_) (fun c => ?_)) <;> try (exfalso; omega)
    | (with_reducible refine CondX.bne (fun c => ?_) (fun c => ?_)) <;> try (exfalso; omega)
    | (with_reducible refine CondX.bool (fun c => ?_) (fun c => ?_)) <;> try (exfalso; omega)
    | simp only [go_sem, I_eq, I_cells, encS, encS_cells, Nat.reduceAdd, Nat.reduceBEq, Nat.reduceEqDiff, Nat.reduceLeDiff, Nat.reduceLT, Nat.reduceSub]
    | simp (disch := omega) only [wrap_in, toNat_succ, toNat_pred, Int.toNat_natCast]
    | with_reducible refine And.intro (by omega) ?_
    | with_reducible refine exI (by omega) ?_
    | fail
  refine awp_count 9 8 s.objs.length (by omega) (fun i t => t.slots 7 = .l false 3 (s.objs.map encO) ∧ t.slots 3 = .int .i64 (openS (s.objs.take i)) ∧ Keeps h t.hp) ?_ ?_ ?_ ?_ ?_
  · simp only [go_sem, I_eq, I_cells, Nat.reduceAdd, Nat.reduceBEq, Nat.reduceEqDiff, Nat.reduceLeDiff, Nat.reduceLT, Nat.reduceSub]
  · simp only [go_sem, I_eq, I_cells, Nat.reduceAdd, Nat.reduceBEq, Nat.reduceEqDiff, Nat.reduceLeDiff, Nat.reduceLT, Nat.reduceSub]
  · simp only [go_sem, I_eq, I_cells, Nat.reduceAdd, Nat.reduceBEq, Nat.reduceEqDiff, Nat.reduceLeDiff, Nat.reduceLT, Nat.reduceSub]
    exact ⟨by simp [openS], by ((repeat with_reducible apply Keeps.alloc); first | assumption | exact Keeps.refl _)⟩
  · rintro i t hlt d2 hw g9 g8 ⟨g7, g3, hH⟩
    have hl := hc _ (List.getElem_mem hlt)
    have h1 := openN_le s.objs[i].cells
    have h2 := hb i
    have h4 : i * 1099511627777 ≤ 8 * 1099511627777 := Nat.mul_le_mul_right _ (by omega)
    have hst := openS_next hlt
    repeat' first
      | (with_reducible refine CondX.dec (fun c => ?_) (fun c => ?_)) <;> try (exfalso; omega)
      | (with_reducible refine CondX.beq (fun c => ?_) (fun c => ?_)) <;> try (exfalso; omega)
      | (with_reducible refine CondX.bne (fun c => ?_) (fun c => ?_)) <;> try (exfalso; omega)
      | (with_reducible refine CondX.bool (fun c => ?_) (fun c => ?_)) <;> try (exfalso; omega)
      | ((with_reducible refine CallX.id ?_); first | refine CallX.pure (f112_spec _ _ (by omega)) ?_)
      | simp only [go_sem, I_eq, I_cells, d2, hw, g9, g8, g7, g3, encO_cells, Nat.reduceAdd, Nat.reduceBEq, Nat.reduceEqDiff, Nat.reduceLeDiff, Nat.reduceLT, Nat.reduceSub]
      | simp (disch := omega) only [wrap_in, toNat_succ, toNat_pred, Int.toNat_natCast]
      | with_reducible refine And.intro (by omega) ?_
      | with_reducible refine exI (by omega) ?_
      | fail
    exact ⟨by rw [hst]; push_cast; rfl, by ((repeat with_reducible apply Keeps.alloc); first | assumption | exact Keeps.refl _)⟩
  · rintro t d2 g9 g8 ⟨g7, g3, hH⟩
    rw [List.take_length] at g3
    simp only [go_sem, I_eq, I_cells, d2, g9, g8, g7, g3, Nat.reduceAdd, Nat.reduceBEq, Nat.reduceEqDiff, Nat.reduceLeDiff, Nat.reduceLT, Nat.reduceSub]
    exact hH
end Go.Proofs.Ytmajndgdfmnchaa
