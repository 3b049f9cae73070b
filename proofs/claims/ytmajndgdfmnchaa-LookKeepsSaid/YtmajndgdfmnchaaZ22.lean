/- Part of a proof: what functions of the given program compute, and plain laws of it. -/
import Derived.Test.YtmajndgdfmnchaaZ20
import Derived.Test.YtmajndgdfmnchaaZ21
/- LookKeeps: what is handed in stays; what Left answers is its own. -/
namespace Go.T
open Go
theorem lfs_mem : ∀ {l : List AV}, AV.lfs l = true → ∀ d ∈ l, d.lf = true := by
  intro l
  induction l with
  | nil => intro _ d hd; cases hd
  | cons x r ih =>
    intro h d hd
    simp only [AV.lfs, Bool.and_eq_true] at h
    rcases List.mem_cons.1 hd with rfl | hd
    · exact h.1
    · exact ih h.2 d hd
theorem Acc.lend {h H : Hp} {sz : Nat} {v : AV} {xs : List AV} (a : Acc h H sz v xs) : ∃ Ls, ∀ pre post : List AV, AV.lfs pre = true → AV.lfs post = true → LeF (lendA Ls H (pre ++ v :: post)) (pre ++ .l false sz xs :: post) := by
  have app : ∀ {x y : AV} (pre post : List AV), Le x y → LeF (pre ++ x :: post) (pre ++ y :: post) := fun {x y} pre post hl => by
    induction pre with
    | nil => exact .cons hl (LeF.refl _)
    | cons p r ih => exact .cons (Le.refl _) ih
  cases a with
  | nil => exact ⟨[], fun pre post _ _ => app pre post Le.l0⟩
  | own L xs hc hL =>
    refine ⟨[L], fun pre post h1 h2 => ?_⟩
    have e : ∀ l : List AV, AV.lfs l = true → l.map (AV.frz L (.arr sz xs)) = l := fun l hl => by rw [← frzs_map, frzs_id (fun d hd L c => frz_lf L c d (lfs_mem hl d hd))]
    simp only [lendA, hc, List.map_append, List.map_cons, e pre h1, e post h2, AV.frz, if_true]
    exact LeF.refl _
theorem Acc.ne {h H : Hp} {sz : Nat} {v : AV} {xs : List AV} (a : Acc h H sz v xs) (hx : xs ≠ []) : ∃ L, v = .os L ∧ H.con L = .arr sz xs := by
  cases a with
  | nil => exact absurd rfl hx
  | own L xs hc hL => exact ⟨L, rfl, hc⟩
theorem Acc.old {h H : Hp} {sz : Nat} {v : AV} {xs : List AV} (a : Acc h H sz v xs) : ∀ L, v = .os L → L.k < H.cnt L.f L.s := by
  intro L hL
  subst hL
  have := a.own'.1
  apply Classical.byContradiction
  intro hk
  rw [H.ok L (by omega)] at this
  cases this
theorem Acc.trans {h H H' : Hp} {sz : Nat} {v : AV} {xs : List AV} (a : Acc H H' sz v xs) (k : Keeps h H) : Acc h H' sz v xs := by
  cases a with
  | nil => exact .nil
  | own L xs hc hL =>
    refine .own L xs hc ?_
    rcases k L with h1 | h1
    · exact h1
    · rw [← h1]; exact hL
theorem Acc.keep {h H H' : Hp} {sz : Nat} {v : AV} {xs : List AV} (a : Acc h H sz v xs) (k : Keeps H H') : Acc h H' sz v xs :=
  a.mono fun L hL => by
    subst hL
    rcases k L with h1 | h1
    · rw [a.own'.1] at h1; cases h1
    · exact h1
theorem old_keeps {h H H' : Hp} (k : Keeps h H) (hf : ∀ M : Lab, M.k < H.cnt M.f M.s → H'.con M = H.con M) : Keeps h H' := fun M => by
  by_cases hM : M.k < H.cnt M.f M.s
  · rw [hf M hM]; exact k M
  · rcases k M with h1 | h1
    · exact .inl h1
    · left; rw [← h1, H.ok M (by omega)]
end Go.T
namespace Go.Gh
open Go Go.T
structure Sized47 (s : Nst) : Prop where
  objs : s.objs.length ≤ 140737488355328
  edges : s.edges.length ≤ 140737488355328
  asks : s.asks.length ≤ 140737488355328
  got : s.got.length ≤ 140737488355328
  cells : ∀ o ∈ s.objs, o.cells.length ≤ 140737488355328
  out : ∀ e ∈ s.edges, e.out.length ≤ 140737488355328
theorem Sized47.sized {s : Nst} (h : Sized47 s) : Sized s :=
  ⟨by have := h.objs; omega, by have := h.edges; omega, by have := h.asks; omega, by have := h.got; omega, fun o ho => by have := h.cells o ho; omega, fun e he => by have := h.out e he; omega⟩
theorem outsH_le : ∀ (es : List Sid) (n m : Int), 0 ≤ n → n ≤ 4611686018427387904 → (∀ e ∈ es, e.out.length ≤ 140737488355328) → outsH n es = some m → n ≤ m ∧ m ≤ 4611686018427387904 ∧ ∀ e ∈ es, (e.out.length : Int) ≤ m := by
  intro es
  induction es with
  | nil => intro n m h0 h1 _ h; simp only [outsH, Option.some.injEq] at h; subst h; exact ⟨by omega, h1, fun e he => by cases he⟩
  | cons e r ih =>
    intro n m h0 h1 hs h
    have he := hs e (by simp)
    rw [outsH, wrap_in (by omega)] at h
    split at h
    · cases h
    · obtain ⟨q1, q2, q3⟩ := ih _ _ (by omega) (by omega) (fun x hx => hs x (by simp [hx])) h
      refine ⟨by omega, q2, fun x hx => ?_⟩
      rcases List.mem_cons.1 hx with rfl | hx
      · omega
      · exact q3 x hx
theorem celsH_le : ∀ (es : List Own) (n m : Int), 0 ≤ n → n ≤ 4611686018427387904 → (∀ e ∈ es, e.cells.length ≤ 140737488355328) → celsH n es = some m → n ≤ m ∧ m ≤ 4611686018427387904 ∧ ∀ e ∈ es, (e.cells.length : Int) ≤ m := by
  intro es
  induction es with
  | nil => intro n m h0 h1 _ h; simp only [celsH, Option.some.injEq] at h; subst h; exact ⟨by omega, h1, fun e he => by cases he⟩
  | cons e r ih =>
    intro n m h0 h1 hs h
    have he := hs e (by simp)
    rw [celsH, wrap_in (by omega)] at h
    split at h
    · cases h
    · obtain ⟨q1, q2, q3⟩ := ih _ _ (by omega) (by omega) (fun x hx => hs x (by simp [hx])) h
      refine ⟨by omega, q2, fun x hx => ?_⟩
      rcases List.mem_cons.1 hx with rfl | hx
      · omega
      · exact q3 x hx
theorem heavy_small : ∀ (ss : List Nst) (n : Int), 0 ≤ n → n ≤ 140737488355328 → (∀ s ∈ ss, Sized47 s) → heavyL n ss = false → n ≤ 4096 ∧ ∀ s ∈ ss, Small s := by
  intro ss
  induction ss with
  | nil => intro n h0 h1 _ h; simp only [heavyL, decide_eq_false_iff_not] at h; exact ⟨by omega, fun s hs => by cases hs⟩
  | cons s r ih =>
    intro n h0 h1 hs h
    have g := hs s (by simp)
    have g1 := g.objs
    have g2 := g.edges
    have g3 := g.asks
    have g4 := g.got
    have e : IntKind.i64.wrap (n + IntKind.i64.wrap (IntKind.i64.wrap (IntKind.i64.wrap (s.objs.length + s.edges.length) + s.asks.length) + s.got.length)) = n + (s.objs.length + s.edges.length + s.asks.length + s.got.length) := by
      rw [wrap_in (x := (s.objs.length : Int) + s.edges.length) (by omega), wrap_in (x := (s.objs.length : Int) + s.edges.length + s.asks.length) (by omega), wrap_in (x := (s.objs.length : Int) + s.edges.length + s.asks.length + s.got.length) (by omega), wrap_in (by omega)]
    rw [heavyL, e] at h
    split at h
    · cases h
    · rename_i m hm
      obtain ⟨a1, a2, a3⟩ := outsH_le _ _ _ (by omega) (by omega) g.out hm
      split at h
      · cases h
      · rename_i k hk
        obtain ⟨b1, b2, b3⟩ := celsH_le _ _ _ (by omega) (by omega) g.cells hk
        split at h
        · cases h
        · obtain ⟨q1, q2⟩ := ih k (by omega) (by omega) (fun x hx => hs x (by simp [hx])) h
          refine ⟨by omega, fun x hx => ?_⟩
          rcases List.mem_cons.1 hx with rfl | hx
          · exact ⟨by omega, by omega, by omega, by omega, fun o ho => by have := b3 o ho; omega, fun o ho => by have := a3 o ho; omega⟩
          · exact q2 x hx
theorem leftL_nofit {ps : List Int} {ss : List Nst} (hf : fitB ps ss = false) (u v : Int) : leftL ps ss u v = [] := by
  unfold leftL; rw [hf]; rfl
theorem leftL_len' {ps : List Int} {ss : List Nst} (hok : TreeOk ps) (u v : Int) : (leftL ps ss u v).length ≤ 1024 := by
  cases hf : fitB ps ss
  · rw [leftL_nofit hf]; exact Nat.zero_le _
  · exact leftL_len hok hf u v
end Go.Gh
namespace Go.Proofs.Ytmajndgdfmnchaa
open Go Go.T Go.Gh Go.Proofs
set_option linter.unusedSimpArgs false
set_option linter.unusedVariables false
set_option maxRecDepth 10000
set_option maxHeartbeats 4000000
def T11 : Nat → List Tg := fun id => if id = 25 then [.plain, .plain, .plain, .plain, .plain, .plain, .plain, .plain, .pure] else []
theorem LookKeeps_good (ps : List Int) (e : Bool) (ss : List Nst) (e1 : Bool) (u v : Int) (hok : TreeOk ps) (hs : ∀ s ∈ ss, Sized s) (hl : ss.length ≤ 4096) (hh : heavyL ss.length ss = false) (hm : ∀ s ∈ ss, Small s) :
    PureF Try.prog 11 [.l e 1 (ps.map I), .l e1 6 (ss.map encS), .agg [.int .i64 u, .int .i64 v]] (.bool true) := by
  have hps := hok.len
  refine PureF.of_awp mixed T11 (fn := Try.f11) (by kernel_rfl) rfl (by kernel_rfl) (by show 3 ≤ _; decide) (by simp [AV.lf]) (fun h => ?_)
  rw [awp_assoc, awp_assoc, awp_assoc, awp_assoc]
  refine awp_cutF [(5, 9), (20, 32)] (by kernel_rfl) (fun t => t.slots 5 = .pt ⟨11, 5, h.cnt 11 5⟩ 0 0 0 ∧ t.slots 7 = treeV ps ∧ t.slots 9 = .l true 0 [] ∧ t.hp.con ⟨11, 5, h.cnt 11 5⟩ = .blk [.int .i64 u, .int .i64 v] ∧ Keeps h t.hp) ?_ ?_
  · repeat' first
      | (with_reducible refine CondX.dec (fun c => ?_) (fun c => ?_)) <;> try (exfalso; omega)
      | (with_reducible refine CondX.beq (fun c => ?_) (fun c => ?_)) <;> try (exfalso; omega)
      | (with_reducible refine CondX.bne (fun c => ?_) (fun c => ?_)) <;> try (exfalso; omega)
      | (with_reducible refine CondX.bool (fun c => ?_) (fun c => ?_)) <;> try (exfalso; omega)
      | ((with_reducible refine CallX.id ?_); first | refine CallX.pure (wakes19_spec) ?_ | refine CallX.pure (f19_spec ps e hok) ?_ | refine CallX.pure (heavy19_spec ss e1 (by omega) hs) ?_)
      | ((with_reducible refine PureX.id ?_); first | refine PureX.of (wakes19_spec) ?_ | refine PureX.of (f19_spec ps e hok) ?_ | refine PureX.of (heavy19_spec ss e1 (by omega) hs) ?_)
      | simp only [go_sem, I_eq, I_cells, T11, hh, Nat.reduceAdd, Nat.reduceBEq, Nat.reduceEqDiff, Nat.reduceLeDiff, Nat.reduceLT, Nat.reduceSub]
      | simp (disch := omega) only [wrap_in, toNat_succ, toNat_pred, Int.toNat_natCast]
      | with_reducible refine And.intro (by omega) ?_
      | with_reducible refine exI (by omega) ?_
      | fail
    all_goals first | ((repeat first | with_reducible apply Keeps.alloc | (with_reducible refine Keeps.set ?_ ?hL _; case hL => first | assumption | exact Hp.ok _ _ (by simp) | exact Keeps.new (by assumption) _ _)); first | assumption | exact Keeps.refl _) | (exfalso; simp at *; done) | skip
  rintro s0 f0 ⟨g5, g7, g9, k5, gK⟩
  refine awp_cutF [(9, 9), (11, 11), (33, 44)] (by kernel_rfl) (fun t => (∃ v9, t.slots 9 = v9 ∧ Acc h t.hp 6 v9 (ss.map encS) ∧ ∀ L, v9 = .os L → L.s = 43) ∧ t.hp.con ⟨11, 5, h.cnt 11 5⟩ = .blk [.int .i64 u, .int .i64 v] ∧ Keeps h t.hp) ?_ ?_
  · repeat' first
      | (with_reducible refine CondX.dec (fun c => ?_) (fun c => ?_)) <;> try (exfalso; omega)
      | (with_reducible refine CondX.beq (fun c => ?_) (fun c => ?_)) <;> try (exfalso; omega)
      | (with_reducible refine CondX.bne (fun c => ?_) (fun c => ?_)) <;> try (exfalso; omega)
      | (with_reducible refine CondX.bool (fun c => ?_) (fun c => ?_)) <;> try (exfalso; omega)
      | simp only [go_sem, I_eq, I_cells, T11, Frm.at f0, g5, g7, g9, k5, Nat.reduceAdd, Nat.reduceBEq, Nat.reduceEqDiff, Nat.reduceLeDiff, Nat.reduceLT, Nat.reduceSub]
      | simp (disch := omega) only [wrap_in, toNat_succ, toNat_pred, Int.toNat_natCast]
      | with_reducible refine And.intro (by omega) ?_
      | with_reducible refine exI (by omega) ?_
      | fail
    refine awp_countF [(9, 9), (11, 11), (35, 44)] (by kernel_rfl) 35 34 (by kernel_rfl) ss.length (by omega) (fun i t => (∃ v9, t.slots 9 = v9 ∧ Acc h t.hp 6 v9 ((ss.take i).map encS) ∧ ∀ L, v9 = .os L → L.s = 43) ∧ t.hp.con ⟨11, 5, h.cnt 11 5⟩ = .blk [.int .i64 u, .int .i64 v] ∧ Keeps h t.hp) ?_ ?_ ?_ ?_ ?_
    · simp only [go_sem, I_eq, I_cells, Nat.reduceAdd, Nat.reduceBEq, Nat.reduceEqDiff, Nat.reduceLeDiff, Nat.reduceLT, Nat.reduceSub]
    · simp only [go_sem, I_eq, I_cells, Nat.reduceAdd, Nat.reduceBEq, Nat.reduceEqDiff, Nat.reduceLeDiff, Nat.reduceLT, Nat.reduceSub]
    · simp only [go_sem, I_eq, I_cells, g9, Nat.reduceAdd, Nat.reduceBEq, Nat.reduceEqDiff, Nat.reduceLeDiff, Nat.reduceLT, Nat.reduceSub]
      exact ⟨⟨_, rfl, .nil, fun L hL => by cases hL⟩, k5, gK⟩
    · clear gK k5 g9
      rintro i t hlt d2 hw f1 ga gb ⟨⟨v9, g9, a9, l9⟩, k5, gK⟩
      rw [List.take_succ_eq_append_getElem hlt, List.map_append]
      have hc := Copy_spec ss[i] (hm _ (List.getElem_mem hlt))
      repeat' first
        | (with_reducible refine CondX.dec (fun c => ?_) (fun c => ?_)) <;> try (exfalso; omega)
        | (with_reducible refine CondX.beq (fun c => ?_) (fun c => ?_)) <;> try (exfalso; omega)
        | (with_reducible refine CondX.bne (fun c => ?_) (fun c => ?_)) <;> try (exfalso; omega)
        | (with_reducible refine CondX.bool (fun c => ?_) (fun c => ?_)) <;> try (exfalso; omega)
        | ((with_reducible refine CallX.id ?_); first | refine CallX.pure (hc) ?_)
        | ((with_reducible refine PureX.id ?_); first | refine PureX.of (hc) ?_)
        | simp only [go_sem, I_eq, I_cells, T11, Frm.at f1, Frm.at f0, g5, g7, g9, k5, ga, gb, d2, hw, encS_cells, Nat.reduceAdd, Nat.reduceBEq, Nat.reduceEqDiff, Nat.reduceLeDiff, Nat.reduceLT, Nat.reduceSub]
        | simp (disch := omega) only [wrap_in, toNat_succ, toNat_pred, Int.toNat_natCast]
        | with_reducible refine And.intro (by omega) ?_
        | with_reducible refine exI (by omega) ?_
        | fail
      refine (a9.alloc _ _ _).app (by ((repeat first | with_reducible apply Keeps.alloc | (with_reducible refine Keeps.set ?_ ?hL _; case hL => first | assumption | exact Hp.ok _ _ (by simp) | exact Keeps.new (by assumption) _ _)); first | assumption | exact Keeps.refl _)) (by simp; omega) (by simp; omega) (by decide) fun H' v' a' kp' fr1 fr2 ev => ?_
      have q5 := fr2 ⟨11, 5, h.cnt 11 5⟩ _ (by simp only [go_sem, I_eq, I_cells, k5, Nat.reduceAdd, Nat.reduceBEq, Nat.reduceEqDiff, Nat.reduceLeDiff, Nat.reduceLT, Nat.reduceSub]; rfl)
      exact ⟨⟨_, rfl, a', fun L hL => by rw [ev] at hL; cases hL; rfl⟩, q5, kp'⟩
    · rintro t d2 f1 ga gb ⟨⟨v9, g9, a9, l9⟩, k5, gK⟩
      rw [List.take_length] at a9
      repeat' first
        | (with_reducible refine CondX.dec (fun c => ?_) (fun c => ?_)) <;> try (exfalso; omega)
        | (with_reducible refine CondX.beq (fun c => ?_) (fun c => ?_)) <;> try (exfalso; omega)
        | (with_reducible refine CondX.bne (fun c => ?_) (fun c => ?_)) <;> try (exfalso; omega)
        | (with_reducible refine CondX.bool (fun c => ?_) (fun c => ?_)) <;> try (exfalso; omega)
        | simp only [go_sem, I_eq, I_cells, T11, Frm.at f1, Frm.at f0, g5, g7, g9, k5, ga, gb, d2, Nat.reduceAdd, Nat.reduceBEq, Nat.reduceEqDiff, Nat.reduceLeDiff, Nat.reduceLT, Nat.reduceSub]
        | simp (disch := omega) only [wrap_in, toNat_succ, toNat_pred, Int.toNat_natCast]
        | with_reducible refine And.intro (by omega) ?_
        | with_reducible refine exI (by omega) ?_
        | fail
      exact ⟨⟨v9, rfl, a9, l9⟩, gK⟩
  clear g9 k5 gK
  rintro s1 f1 ⟨⟨v9, g9, a9, l9⟩, k5, gK⟩
  obtain ⟨xs, hxs⟩ : ∃ xs, leftL ps ss u v = xs := ⟨_, rfl⟩
  have hxl : xs.length ≤ 1024 := by rw [← hxs]; exact leftL_len' hok u v
  have snM : ∀ q : Hp, AV.sns q (xs.map encM) := fun q => sns_iff.2 fun x hx => by
    obtain ⟨m, _, rfl⟩ := List.mem_map.1 hx
    simp [encM, AV.sn, AV.sns]
  have o5 : ∀ q : Hp, q.con ⟨11, 5, h.cnt 11 5⟩ = .blk [.int .i64 u, .int .i64 v] → h.cnt 11 5 < q.cnt 11 5 := fun q hq => by
    apply Classical.byContradiction
    intro hk
    rw [q.ok _ (by simp; omega)] at hq
    cases hq
  rw [awp_assoc]
  refine awp_cutF [(12, 13), (45, 58)] (by kernel_rfl) (fun t => ∃ va vb, t.slots 12 = va ∧ t.slots 13 = vb ∧ Acc h t.hp 5 va (xs.map encM) ∧ Acc h t.hp 5 vb (xs.map encM) ∧ (∀ L, va = .os L → L ≠ ⟨11, 5, h.cnt 11 5⟩ ∧ v9 ≠ .os L ∧ vb ≠ .os L) ∧ Acc h t.hp 6 v9 (ss.map encS) ∧ t.hp.con ⟨11, 5, h.cnt 11 5⟩ = .blk [.int .i64 u, .int .i64 v] ∧ Keeps h t.hp) ?_ ?_
  · repeat' first
      | (with_reducible refine CondX.dec (fun c => ?_) (fun c => ?_)) <;> try (exfalso; omega)
      | (with_reducible refine CondX.beq (fun c => ?_) (fun c => ?_)) <;> try (exfalso; omega)
      | (with_reducible refine CondX.bne (fun c => ?_) (fun c => ?_)) <;> try (exfalso; omega)
      | (with_reducible refine CondX.bool (fun c => ?_) (fun c => ?_)) <;> try (exfalso; omega)
      | simp only [go_sem, I_eq, I_cells, T11, Frm.at f1, Frm.at f0, g5, g7, g9, k5, Nat.reduceAdd, Nat.reduceBEq, Nat.reduceEqDiff, Nat.reduceLeDiff, Nat.reduceLT, Nat.reduceSub]
      | simp (disch := omega) only [wrap_in, toNat_succ, toNat_pred, Int.toNat_natCast]
      | with_reducible refine And.intro (by omega) ?_
      | with_reducible refine exI (by omega) ?_
      | fail
    obtain ⟨Ls, hLs⟩ := a9.lend
    refine CallX.of (CallK.lendOwn Ls (fun q => Left_own q ps ss false u v hok hs) (hLs [treeV ps] [.int .i64 u, .int .i64 v] (by simp [AV.lfs, treeV_lf]) (by simp [AV.lfs, AV.lf])) (by rw [hxs]; exact snM _) fun va H1 a1 h1 n1 => ?_)
    rw [hxs] at a1
    have k5' : H1.con ⟨11, 5, h.cnt 11 5⟩ = .blk [.int .i64 u, .int .i64 v] := by rw [h1 _ (o5 _ k5)]; exact k5
    have a9' : Acc h H1 6 v9 (ss.map encS) := a9.mono fun L hL => h1 L (a9.old L hL)
    have gK' := old_keeps gK h1
    have a1' := a1.trans gK
    repeat' first
      | (with_reducible refine CondX.dec (fun c => ?_) (fun c => ?_)) <;> try (exfalso; omega)
      | (with_reducible refine CondX.beq (fun c => ?_) (fun c => ?_)) <;> try (exfalso; omega)
      | (with_reducible refine CondX.bne (fun c => ?_) (fun c => ?_)) <;> try (exfalso; omega)
      | (with_reducible refine CondX.bool (fun c => ?_) (fun c => ?_)) <;> try (exfalso; omega)
      | simp only [go_sem, I_eq, I_cells, T11, Frm.at f1, Frm.at f0, g5, g7, g9, k5', Nat.reduceAdd, Nat.reduceBEq, Nat.reduceEqDiff, Nat.reduceLeDiff, Nat.reduceLT, Nat.reduceSub]
      | simp (disch := omega) only [wrap_in, toNat_succ, toNat_pred, Int.toNat_natCast]
      | with_reducible refine And.intro (by omega) ?_
      | with_reducible refine exI (by omega) ?_
      | fail
    obtain ⟨Ls', hLs'⟩ := a9'.lend
    refine CallX.of (CallK.lendOwn Ls' (fun q => Left_own q ps ss false u v hok hs) (hLs' [treeV ps] [.int .i64 u, .int .i64 v] (by simp [AV.lfs, treeV_lf]) (by simp [AV.lfs, AV.lf])) (by rw [hxs]; exact snM _) fun vb H2 a2 h2 n2 => ?_)
    rw [hxs] at a2
    repeat' first
      | (with_reducible refine CondX.dec (fun c => ?_) (fun c => ?_)) <;> try (exfalso; omega)
      | (with_reducible refine CondX.beq (fun c => ?_) (fun c => ?_)) <;> try (exfalso; omega)
      | (with_reducible refine CondX.bne (fun c => ?_) (fun c => ?_)) <;> try (exfalso; omega)
      | (with_reducible refine CondX.bool (fun c => ?_) (fun c => ?_)) <;> try (exfalso; omega)
      | simp only [go_sem, I_eq, I_cells, T11, Frm.at f1, Frm.at f0, g5, g7, g9, Nat.reduceAdd, Nat.reduceBEq, Nat.reduceEqDiff, Nat.reduceLeDiff, Nat.reduceLT, Nat.reduceSub]
      | simp (disch := omega) only [wrap_in, toNat_succ, toNat_pred, Int.toNat_natCast]
      | with_reducible refine And.intro (by omega) ?_
      | with_reducible refine exI (by omega) ?_
      | fail
    refine ⟨_, _, rfl, rfl, a1'.mono fun L hL => h2 L (a1.old L hL), a2.trans gK', fun L hL => ⟨?_, ?_, ?_⟩, a9'.mono fun L hL => h2 L (a9'.old L hL), by rw [h2 _ (o5 _ k5')]; exact k5', old_keeps gK' h2⟩
    · rintro rfl; exact n1 _ hL (o5 _ k5)
    · intro hE; exact n1 _ hL (a9.old _ hE)
    · intro hE; exact n2 _ hE (a1.old _ hL)
  clear k5 gK a9
  rintro s2 f2 ⟨va, vb, g12, g13, aa, ab, dd, a9, k5, gK⟩
  have hcn : countL ps ss 1 0 (edgesL ps) < 2 ^ 40 := by
    have e3 := edgesL_len hok
    rw [countL_sumE]
    exact Nat.lt_of_le_of_lt (Nat.le_trans (sumE_le (b := 1024) (fun u v => Nat.le_trans List.countP_le_length (leftL_len' hok u v)) _) (Nat.mul_le_mul_right _ (Nat.le_trans e3 (show 1024 ≤ 2 * 1024 by decide)))) (by decide)
  rw [awp_assoc]
  refine awp_cutF [(59, 64)] (by kernel_rfl) (fun t => t.hp = s2.hp) ?_ ?_
  · repeat' first
      | (with_reducible refine CondX.dec (fun c => ?_) (fun c => ?_)) <;> try (exfalso; omega)
      | (with_reducible refine CondX.beq (fun c => ?_) (fun c => ?_)) <;> try (exfalso; omega)
      | (with_reducible refine CondX.bne (fun c => ?_) (fun c => ?_)) <;> try (exfalso; omega)
      | (with_reducible refine CondX.bool (fun c => ?_) (fun c => ?_)) <;> try (exfalso; omega)
      | simp only [go_sem, I_eq, I_cells, T11, Frm.at f2, Frm.at f1, Frm.at f0, g5, g7, g9, g12, g13, Nat.reduceAdd, Nat.reduceBEq, Nat.reduceEqDiff, Nat.reduceLeDiff, Nat.reduceLT, Nat.reduceSub]
      | simp (disch := omega) only [wrap_in, toNat_succ, toNat_pred, Int.toNat_natCast]
      | with_reducible refine And.intro (by omega) ?_
      | with_reducible refine exI (by omega) ?_
      | fail
    obtain ⟨Ls, hLs⟩ := a9.lend
    refine CallX.of (CallK.lendL Ls (Law_spec ps ss false 0 hok hs) (hLs [treeV ps] [.int .i64 0] (by simp [AV.lfs, treeV_lf]) (by simp [AV.lfs, AV.lf])) (by simp [AV.sn]) ?_)
    repeat' first
      | (with_reducible refine CondX.dec (fun c => ?_) (fun c => ?_)) <;> try (exfalso; omega)
      | (with_reducible refine CondX.beq (fun c => ?_) (fun c => ?_)) <;> try (exfalso; omega)
      | (with_reducible refine CondX.bne (fun c => ?_) (fun c => ?_)) <;> try (exfalso; omega)
      | (with_reducible refine CondX.bool (fun c => ?_) (fun c => ?_)) <;> try (exfalso; omega)
      | simp only [go_sem, I_eq, I_cells, T11, Frm.at f2, Frm.at f1, Frm.at f0, g5, g7, g9, g12, g13, Nat.reduceAdd, Nat.reduceBEq, Nat.reduceEqDiff, Nat.reduceLeDiff, Nat.reduceLT, Nat.reduceSub]
      | simp (disch := omega) only [wrap_in, toNat_succ, toNat_pred, Int.toNat_natCast]
      | with_reducible refine And.intro (by omega) ?_
      | with_reducible refine exI (by omega) ?_
      | fail
    refine CallX.of (CallK.lendL Ls (Count_spec ps ss false 1 0 hok hs (leftL_len' hok) hcn) (hLs [treeV ps] [.int .i64 1, .int .i64 0] (by simp [AV.lfs, treeV_lf]) (by simp [AV.lfs, AV.lf])) (by simp [AV.sn]) ?_)
    repeat' first
      | (with_reducible refine CondX.dec (fun c => ?_) (fun c => ?_)) <;> try (exfalso; omega)
      | (with_reducible refine CondX.beq (fun c => ?_) (fun c => ?_)) <;> try (exfalso; omega)
      | (with_reducible refine CondX.bne (fun c => ?_) (fun c => ?_)) <;> try (exfalso; omega)
      | (with_reducible refine CondX.bool (fun c => ?_) (fun c => ?_)) <;> try (exfalso; omega)
      | simp only [go_sem, I_eq, I_cells, T11, Frm.at f2, Frm.at f1, Frm.at f0, g5, g7, g9, g12, g13, Nat.reduceAdd, Nat.reduceBEq, Nat.reduceEqDiff, Nat.reduceLeDiff, Nat.reduceLT, Nat.reduceSub]
      | simp (disch := omega) only [wrap_in, toNat_succ, toNat_pred, Int.toNat_natCast]
      | with_reducible refine And.intro (by omega) ?_
      | with_reducible refine exI (by omega) ?_
      | fail
  rintro s3 f3 hs3
  rw [← hs3] at aa ab a9 k5 gK
  clear hs3
  refine awp_cutF [(14, 14), (65, 74)] (by kernel_rfl) (fun t => (∃ ys : List AV, Acc h t.hp 5 va ys ∧ ys.length = xs.length) ∧ Acc h t.hp 5 vb (xs.map encM) ∧ Acc h t.hp 6 v9 (ss.map encS) ∧ t.hp.con ⟨11, 5, h.cnt 11 5⟩ = .blk [.int .i64 u, .int .i64 v] ∧ Keeps h t.hp) ?_ ?_
  · repeat' first
      | (with_reducible refine CondX.dec (fun c => ?_) (fun c => ?_)) <;> try (exfalso; omega)
      | (with_reducible refine CondX.beq (fun c => ?_) (fun c => ?_)) <;> try (exfalso; omega)
      | (with_reducible refine CondX.bne (fun c => ?_) (fun c => ?_)) <;> try (exfalso; omega)
      | (with_reducible refine CondX.bool (fun c => ?_) (fun c => ?_)) <;> try (exfalso; omega)
      | simp only [go_sem, I_eq, I_cells, T11, Frm.at f3, Frm.at f2, Frm.at f1, Frm.at f0, g5, g7, g9, g12, g13, Nat.reduceAdd, Nat.reduceBEq, Nat.reduceEqDiff, Nat.reduceLeDiff, Nat.reduceLT, Nat.reduceSub]
      | simp (disch := omega) only [wrap_in, toNat_succ, toNat_pred, Int.toNat_natCast]
      | with_reducible refine And.intro (by omega) ?_
      | with_reducible refine exI (by omega) ?_
      | fail
    refine aa.len ?_
    repeat' first
      | (with_reducible refine CondX.dec (fun c => ?_) (fun c => ?_)) <;> try (exfalso; omega)
      | (with_reducible refine CondX.beq (fun c => ?_) (fun c => ?_)) <;> try (exfalso; omega)
      | (with_reducible refine CondX.bne (fun c => ?_) (fun c => ?_)) <;> try (exfalso; omega)
      | (with_reducible refine CondX.bool (fun c => ?_) (fun c => ?_)) <;> try (exfalso; omega)
      | simp only [go_sem, I_eq, I_cells, T11, Frm.at f3, Frm.at f2, Frm.at f1, Frm.at f0, g5, g7, g9, g12, g13, List.length_map, Nat.reduceAdd, Nat.reduceBEq, Nat.reduceEqDiff, Nat.reduceLeDiff, Nat.reduceLT, Nat.reduceSub]
      | simp (disch := omega) only [wrap_in, toNat_succ, toNat_pred, Int.toNat_natCast]
      | with_reducible refine And.intro (by omega) ?_
      | with_reducible refine exI (by omega) ?_
      | fail
    refine awp_countF [(14, 14), (67, 74)] (by kernel_rfl) 67 66 (by kernel_rfl) xs.length (by omega) (fun i t => (∃ ys : List AV, Acc h t.hp 5 va ys ∧ ys.length = xs.length) ∧ Acc h t.hp 5 vb (xs.map encM) ∧ Acc h t.hp 6 v9 (ss.map encS) ∧ t.hp.con ⟨11, 5, h.cnt 11 5⟩ = .blk [.int .i64 u, .int .i64 v] ∧ Keeps h t.hp) ?_ ?_ ?_ ?_ ?_
    · simp only [go_sem, I_eq, I_cells, Nat.reduceAdd, Nat.reduceBEq, Nat.reduceEqDiff, Nat.reduceLeDiff, Nat.reduceLT, Nat.reduceSub]
    · simp only [go_sem, I_eq, I_cells, Nat.reduceAdd, Nat.reduceBEq, Nat.reduceEqDiff, Nat.reduceLeDiff, Nat.reduceLT, Nat.reduceSub]
    · simp only [go_sem, I_eq, I_cells, Nat.reduceAdd, Nat.reduceBEq, Nat.reduceEqDiff, Nat.reduceLeDiff, Nat.reduceLT, Nat.reduceSub]
      exact ⟨⟨_, aa, List.length_map _⟩, ab, a9, k5, gK⟩
    · clear aa ab a9 k5 gK
      rintro i t hlt d2 hw f4 ga gb ⟨⟨ys, aa, hys⟩, ab, a9, k5, gK⟩
      obtain ⟨L, hL, cL⟩ := aa.ne (by rintro rfl; simp at hys; omega)
      subst hL
      obtain ⟨_, nL⟩ := aa.own'
      obtain ⟨d5, d9, db⟩ := dd L rfl
      repeat' first
        | (with_reducible refine CondX.dec (fun c => ?_) (fun c => ?_)) <;> try (exfalso; omega)
        | (with_reducible refine CondX.beq (fun c => ?_) (fun c => ?_)) <;> try (exfalso; omega)
        | (with_reducible refine CondX.bne (fun c => ?_) (fun c => ?_)) <;> try (exfalso; omega)
        | (with_reducible refine CondX.bool (fun c => ?_) (fun c => ?_)) <;> try (exfalso; omega)
        | simp only [go_sem, I_eq, I_cells, T11, Frm.at f4, Frm.at f3, Frm.at f2, Frm.at f1, Frm.at f0, g5, g7, g9, g12, g13, ga, gb, d2, hw, cL, Nat.reduceAdd, Nat.reduceBEq, Nat.reduceEqDiff, Nat.reduceLeDiff, Nat.reduceLT, Nat.reduceSub]
        | simp (disch := omega) only [wrap_in, toNat_succ, toNat_pred, Int.toNat_natCast]
        | with_reducible refine And.intro (by omega) ?_
        | with_reducible refine exI (by omega) ?_
        | fail
      have hset : ∀ zs : List AV, (t.hp.set L (.arr 5 zs)).con L = .arr 5 zs := fun zs => by simp [Hp.set, cL, Con.keep]
      exact ⟨⟨_, .own L _ (hset _) nL, by rw [List.length_set]; exact hys⟩, ab.mono (fun M hM => set_con_ne (fun hE => db (hE ▸ hM))), a9.mono (fun M hM => set_con_ne (fun hE => d9 (hE ▸ hM))), by rw [if_neg (fun hE => d5 hE.symm)]; exact k5, gK.set nL _⟩
    · rintro t d2 f4 ga gb ⟨⟨ys, aa, hys⟩, ab, a9, k5, gK⟩
      repeat' first
        | (with_reducible refine CondX.dec (fun c => ?_) (fun c => ?_)) <;> try (exfalso; omega)
        | (with_reducible refine CondX.beq (fun c => ?_) (fun c => ?_)) <;> try (exfalso; omega)
        | (with_reducible refine CondX.bne (fun c => ?_) (fun c => ?_)) <;> try (exfalso; omega)
        | (with_reducible refine CondX.bool (fun c => ?_) (fun c => ?_)) <;> try (exfalso; omega)
        | simp only [go_sem, I_eq, I_cells, T11, Frm.at f4, Frm.at f3, Frm.at f2, Frm.at f1, Frm.at f0, g5, g7, g9, g12, g13, ga, gb, d2, Nat.reduceAdd, Nat.reduceBEq, Nat.reduceEqDiff, Nat.reduceLeDiff, Nat.reduceLT, Nat.reduceSub]
        | simp (disch := omega) only [wrap_in, toNat_succ, toNat_pred, Int.toNat_natCast]
        | with_reducible refine And.intro (by omega) ?_
        | with_reducible refine exI (by omega) ?_
        | fail
      exact ⟨⟨ys, aa, hys⟩, ab, a9, k5, gK⟩
  clear aa ab a9 k5 gK
  rintro s4 f4 ⟨⟨ys, aa, hys⟩, ab, a9, k5, gK⟩
  refine awp_cutF [(12, 12), (75, 79)] (by kernel_rfl) (fun t => ∃ L2 zs, t.slots 12 = .os L2 ∧ t.hp.con L2 = .arr 5 zs ∧ zs.length = xs.length + 2 ∧ Acc h t.hp 5 vb (xs.map encM) ∧ Acc h t.hp 6 v9 (ss.map encS) ∧ t.hp.con ⟨11, 5, h.cnt 11 5⟩ = .blk [.int .i64 u, .int .i64 v] ∧ Keeps h t.hp) ?_ ?_
  · repeat' first
      | (with_reducible refine CondX.dec (fun c => ?_) (fun c => ?_)) <;> try (exfalso; omega)
      | (with_reducible refine CondX.beq (fun c => ?_) (fun c => ?_)) <;> try (exfalso; omega)
      | (with_reducible refine CondX.bne (fun c => ?_) (fun c => ?_)) <;> try (exfalso; omega)
      | (with_reducible refine CondX.bool (fun c => ?_) (fun c => ?_)) <;> try (exfalso; omega)
      | simp only [go_sem, I_eq, I_cells, T11, Frm.at f4, Frm.at f3, Frm.at f2, Frm.at f1, Frm.at f0, g5, g7, g9, g12, g13, Nat.reduceAdd, Nat.reduceBEq, Nat.reduceEqDiff, Nat.reduceLeDiff, Nat.reduceLT, Nat.reduceSub]
      | simp (disch := omega) only [wrap_in, toNat_succ, toNat_pred, Int.toNat_natCast]
      | with_reducible refine And.intro (by omega) ?_
      | with_reducible refine exI (by omega) ?_
      | fail
    refine aa.app gK (by simp; omega) (by simp; omega) (by decide) fun H' v' a' kp' fr1 fr2 ev => ?_
    have q5 := fr2 ⟨11, 5, h.cnt 11 5⟩ _ k5
    subst ev
    repeat' first
      | (with_reducible refine CondX.dec (fun c => ?_) (fun c => ?_)) <;> try (exfalso; omega)
      | (with_reducible refine CondX.beq (fun c => ?_) (fun c => ?_)) <;> try (exfalso; omega)
      | (with_reducible refine CondX.bne (fun c => ?_) (fun c => ?_)) <;> try (exfalso; omega)
      | (with_reducible refine CondX.bool (fun c => ?_) (fun c => ?_)) <;> try (exfalso; omega)
      | simp only [go_sem, I_eq, I_cells, T11, Frm.at f4, Frm.at f3, Frm.at f2, Frm.at f1, Frm.at f0, g5, g7, g9, g12, g13, Nat.reduceAdd, Nat.reduceBEq, Nat.reduceEqDiff, Nat.reduceLeDiff, Nat.reduceLT, Nat.reduceSub]
      | simp (disch := omega) only [wrap_in, toNat_succ, toNat_pred, Int.toNat_natCast]
      | with_reducible refine And.intro (by omega) ?_
      | with_reducible refine exI (by omega) ?_
      | fail
    refine ⟨_, _, rfl, a'.own'.1, by simp [hys], ab.mono fun L hL => fr1 L ?_ ?_, a9.mono fun L hL => fr1 L ?_ ?_, q5, kp'⟩
    · subst hL; rw [ab.own'.1]; simp
    · rintro M hM rfl; exact (dd _ hM).2.2 hL
    · subst hL; rw [a9.own'.1]; simp
    · rintro M hM rfl; exact (dd _ hM).2.1 hL
  clear aa ab a9 k5 gK dd g12 hys
  rintro s5 f5 ⟨L2, zs, g12, c2, hzs, ab, a9, k5, gK⟩
  refine awp_cutF [(6, 6), (15, 15), (80, 95)] (by kernel_rfl) (fun t => t.hp = s5.hp) ?_ ?_
  · repeat' first
      | (with_reducible refine CondX.dec (fun c => ?_) (fun c => ?_)) <;> try (exfalso; omega)
      | (with_reducible refine CondX.beq (fun c => ?_) (fun c => ?_)) <;> try (exfalso; omega)
      | (with_reducible refine CondX.bne (fun c => ?_) (fun c => ?_)) <;> try (exfalso; omega)
      | (with_reducible refine CondX.bool (fun c => ?_) (fun c => ?_)) <;> try (exfalso; omega)
      | simp only [go_sem, I_eq, I_cells, T11, Frm.at f5, Frm.at f4, Frm.at f3, Frm.at f2, Frm.at f1, Frm.at f0, g5, g7, g9, g12, g13, Nat.reduceAdd, Nat.reduceBEq, Nat.reduceEqDiff, Nat.reduceLeDiff, Nat.reduceLT, Nat.reduceSub]
      | simp (disch := omega) only [wrap_in, toNat_succ, toNat_pred, Int.toNat_natCast]
      | with_reducible refine And.intro (by omega) ?_
      | with_reducible refine exI (by omega) ?_
      | fail
    refine a9.len ?_
    repeat' first
      | (with_reducible refine CondX.dec (fun c => ?_) (fun c => ?_)) <;> try (exfalso; omega)
      | (with_reducible refine CondX.beq (fun c => ?_) (fun c => ?_)) <;> try (exfalso; omega)
      | (with_reducible refine CondX.bne (fun c => ?_) (fun c => ?_)) <;> try (exfalso; omega)
      | (with_reducible refine CondX.bool (fun c => ?_) (fun c => ?_)) <;> try (exfalso; omega)
      | simp only [go_sem, I_eq, I_cells, T11, Frm.at f5, Frm.at f4, Frm.at f3, Frm.at f2, Frm.at f1, Frm.at f0, g5, g7, g9, g12, g13, List.length_map, Nat.reduceAdd, Nat.reduceBEq, Nat.reduceEqDiff, Nat.reduceLeDiff, Nat.reduceLT, Nat.reduceSub]
      | simp (disch := omega) only [wrap_in, toNat_succ, toNat_pred, Int.toNat_natCast]
      | with_reducible refine And.intro (by omega) ?_
      | with_reducible refine exI (by omega) ?_
      | fail
    refine awp_countF [(6, 6), (15, 15), (82, 95)] (by kernel_rfl) 82 81 (by kernel_rfl) ss.length (by omega) (fun i t => t.hp = s5.hp) ?_ ?_ ?_ ?_ ?_
    · simp only [go_sem, I_eq, I_cells, Nat.reduceAdd, Nat.reduceBEq, Nat.reduceEqDiff, Nat.reduceLeDiff, Nat.reduceLT, Nat.reduceSub]
    · simp only [go_sem, I_eq, I_cells, Nat.reduceAdd, Nat.reduceBEq, Nat.reduceEqDiff, Nat.reduceLeDiff, Nat.reduceLT, Nat.reduceSub]
    · simp only [go_sem, I_eq, I_cells, Nat.reduceAdd, Nat.reduceBEq, Nat.reduceEqDiff, Nat.reduceLeDiff, Nat.reduceLT, Nat.reduceSub]
    · rintro i t hlt d2 hw f6 ga gb hH
      obtain ⟨L9, h9, c9⟩ := a9.ne (by intro hE; have := congrArg List.length hE; simp at this; rw [this] at hlt; simp at hlt)
      subst h9
      repeat' first
        | (with_reducible refine CondX.dec (fun c => ?_) (fun c => ?_)) <;> try (exfalso; omega)
        | (with_reducible refine CondX.beq (fun c => ?_) (fun c => ?_)) <;> try (exfalso; omega)
        | (with_reducible refine CondX.bne (fun c => ?_) (fun c => ?_)) <;> try (exfalso; omega)
        | (with_reducible refine CondX.bool (fun c => ?_) (fun c => ?_)) <;> try (exfalso; omega)
        | ((with_reducible refine CallX.id ?_); first | refine CallX.pure (Same14_spec ss[i] (hs _ (List.getElem_mem hlt))) ?_)
        | ((with_reducible refine PureX.id ?_); first | refine PureX.of (Same14_spec ss[i] (hs _ (List.getElem_mem hlt))) ?_)
        | simp only [go_sem, I_eq, I_cells, T11, Frm.at f6, Frm.at f5, Frm.at f4, Frm.at f3, Frm.at f2, Frm.at f1, Frm.at f0, g5, g7, g9, g12, g13, ga, gb, d2, hw, hH, c9, encS_cells, Nat.reduceAdd, Nat.reduceBEq, Nat.reduceEqDiff, Nat.reduceLeDiff, Nat.reduceLT, Nat.reduceSub]
        | simp (disch := omega) only [wrap_in, toNat_succ, toNat_pred, Int.toNat_natCast]
        | with_reducible refine And.intro (by omega) ?_
        | with_reducible refine exI (by omega) ?_
        | fail
      all_goals first | exact hH | trace_state
    · rintro t d2 f6 ga gb hH
      repeat' first
        | (with_reducible refine CondX.dec (fun c => ?_) (fun c => ?_)) <;> try (exfalso; omega)
        | (with_reducible refine CondX.beq (fun c => ?_) (fun c => ?_)) <;> try (exfalso; omega)
        | (with_reducible refine CondX.bne (fun c => ?_) (fun c => ?_)) <;> try (exfalso; omega)
        | (with_reducible refine CondX.bool (fun c => ?_) (fun c => ?_)) <;> try (exfalso; omega)
        | simp only [go_sem, I_eq, I_cells, T11, Frm.at f6, Frm.at f5, Frm.at f4, Frm.at f3, Frm.at f2, Frm.at f1, Frm.at f0, g5, g7, g9, g12, g13, ga, gb, d2, Nat.reduceAdd, Nat.reduceBEq, Nat.reduceEqDiff, Nat.reduceLeDiff, Nat.reduceLT, Nat.reduceSub]
        | simp (disch := omega) only [wrap_in, toNat_succ, toNat_pred, Int.toNat_natCast]
        | with_reducible refine And.intro (by omega) ?_
        | with_reducible refine exI (by omega) ?_
        | fail
      all_goals exact hH
  rintro s6 f6 hs6
  rw [← hs6] at c2 ab a9 k5 gK
  clear hs6
  have hfe := fit_eq hok ss
  cases hf : fitB ps ss
  · have hx0 : xs = [] := by rw [← hxs]; exact leftL_nofit hf u v
    subst hx0
    rw [hf] at hfe
    repeat' first
      | (with_reducible refine CondX.dec (fun c => ?_) (fun c => ?_)) <;> try (exfalso; omega)
      | (with_reducible refine CondX.beq (fun c => ?_) (fun c => ?_)) <;> try (exfalso; omega)
      | (with_reducible refine CondX.bne (fun c => ?_) (fun c => ?_)) <;> try (exfalso; omega)
      | (with_reducible refine CondX.bool (fun c => ?_) (fun c => ?_)) <;> try (exfalso; omega)
      | ((with_reducible refine CallX.id ?_); first | refine CallX.pure (ref_Fit_spec ps e ss e1 (by omega) hs) ?_)
      | ((with_reducible refine PureX.id ?_); first | refine PureX.of (ref_Fit_spec ps e ss e1 (by omega) hs) ?_)
      | simp only [go_sem, I_eq, I_cells, T11, Frm.at f6, Frm.at f5, Frm.at f4, Frm.at f3, Frm.at f2, Frm.at f1, Frm.at f0, g5, g7, g9, g12, g13, c2, ← hfe, Nat.reduceAdd, Nat.reduceBEq, Nat.reduceEqDiff, Nat.reduceLeDiff, Nat.reduceLT, Nat.reduceSub]
      | simp (disch := omega) only [wrap_in, toNat_succ, toNat_pred, Int.toNat_natCast]
      | with_reducible refine And.intro (by omega) ?_
      | with_reducible refine exI (by omega) ?_
      | fail
    · refine ab.len ?_
      repeat' first
        | (with_reducible refine CondX.dec (fun c => ?_) (fun c => ?_)) <;> try (exfalso; omega)
        | (with_reducible refine CondX.beq (fun c => ?_) (fun c => ?_)) <;> try (exfalso; omega)
        | (with_reducible refine CondX.bne (fun c => ?_) (fun c => ?_)) <;> try (exfalso; omega)
        | (with_reducible refine CondX.bool (fun c => ?_) (fun c => ?_)) <;> try (exfalso; omega)
        | simp only [go_sem, I_eq, I_cells, List.map_nil, List.length_nil, Nat.reduceAdd, Nat.reduceBEq, Nat.reduceEqDiff, Nat.reduceLeDiff, Nat.reduceLT, Nat.reduceSub]
        | simp (disch := omega) only [wrap_in, toNat_succ, toNat_pred, Int.toNat_natCast]
        | with_reducible refine And.intro (by omega) ?_
        | with_reducible refine exI (by omega) ?_
        | fail
      exact ⟨rfl, gK⟩
    · exfalso; simp at hzs; omega
  rw [hf] at hfe
  have hln := (fit_at hf).1
  have hek := EdgeOk.of hok hf
  have hle := left_eq hok hf u v
  rw [hxs] at hle
  rw [awp_assoc]
  refine awp_cutF [(6, 6), (16, 16), (96, 114)] (by kernel_rfl) (fun t => ∃ vw, t.slots 16 = vw ∧ Acc h t.hp 5 vw (xs.map encM) ∧ Acc h t.hp 5 vb (xs.map encM) ∧ Keeps h t.hp) ?_ ?_
  · repeat' first
      | (with_reducible refine CondX.dec (fun c => ?_) (fun c => ?_)) <;> try (exfalso; omega)
      | (with_reducible refine CondX.beq (fun c => ?_) (fun c => ?_)) <;> try (exfalso; omega)
      | (with_reducible refine CondX.bne (fun c => ?_) (fun c => ?_)) <;> try (exfalso; omega)
      | (with_reducible refine CondX.bool (fun c => ?_) (fun c => ?_)) <;> try (exfalso; omega)
      | ((with_reducible refine CallX.id ?_); first | refine CallX.pure (ref_Fit_spec ps e ss e1 (by omega) hs) ?_)
      | ((with_reducible refine PureX.id ?_); first | refine PureX.of (ref_Fit_spec ps e ss e1 (by omega) hs) ?_)
      | simp only [go_sem, I_eq, I_cells, T11, Frm.at f6, Frm.at f5, Frm.at f4, Frm.at f3, Frm.at f2, Frm.at f1, Frm.at f0, g5, g7, g9, g12, g13, k5, ← hfe, Nat.reduceAdd, Nat.reduceBEq, Nat.reduceEqDiff, Nat.reduceLeDiff, Nat.reduceLT, Nat.reduceSub]
      | simp (disch := omega) only [wrap_in, toNat_succ, toNat_pred, Int.toNat_natCast]
      | with_reducible refine And.intro (by omega) ?_
      | with_reducible refine exI (by omega) ?_
      | fail
    refine CallX.of (CallK.ofOwn (ref_Left_own _ ps e e1 ss u v hln hek) fun vw H' aw kp => ?_)
    rw [← hle] at aw
    repeat' first
      | (with_reducible refine CondX.dec (fun c => ?_) (fun c => ?_)) <;> try (exfalso; omega)
      | (with_reducible refine CondX.beq (fun c => ?_) (fun c => ?_)) <;> try (exfalso; omega)
      | (with_reducible refine CondX.bne (fun c => ?_) (fun c => ?_)) <;> try (exfalso; omega)
      | (with_reducible refine CondX.bool (fun c => ?_) (fun c => ?_)) <;> try (exfalso; omega)
      | simp only [go_sem, I_eq, I_cells, T11, Frm.at f6, Frm.at f5, Frm.at f4, Frm.at f3, Frm.at f2, Frm.at f1, Frm.at f0, g5, g7, g9, g12, g13, Nat.reduceAdd, Nat.reduceBEq, Nat.reduceEqDiff, Nat.reduceLeDiff, Nat.reduceLT, Nat.reduceSub]
      | simp (disch := omega) only [wrap_in, toNat_succ, toNat_pred, Int.toNat_natCast]
      | with_reducible refine And.intro (by omega) ?_
      | with_reducible refine exI (by omega) ?_
      | fail
    exact ⟨vw, rfl, aw.trans gK, ab.keep kp, gK.trans kp⟩
  clear ab a9 k5 gK c2
  rintro s7 f7 ⟨vw, g16, aw, ab, gK⟩
  refine awp_cutF [(6, 6), (17, 17), (115, 135)] (by kernel_rfl) (fun t => t.hp = s7.hp) ?_ ?_
  · repeat' first
      | (with_reducible refine CondX.dec (fun c => ?_) (fun c => ?_)) <;> try (exfalso; omega)
      | (with_reducible refine CondX.beq (fun c => ?_) (fun c => ?_)) <;> try (exfalso; omega)
      | (with_reducible refine CondX.bne (fun c => ?_) (fun c => ?_)) <;> try (exfalso; omega)
      | (with_reducible refine CondX.bool (fun c => ?_) (fun c => ?_)) <;> try (exfalso; omega)
      | simp only [go_sem, I_eq, I_cells, T11, Frm.at f7, Frm.at f6, Frm.at f5, Frm.at f4, Frm.at f3, Frm.at f2, Frm.at f1, Frm.at f0, g5, g7, g9, g12, g13, g16, Nat.reduceAdd, Nat.reduceBEq, Nat.reduceEqDiff, Nat.reduceLeDiff, Nat.reduceLT, Nat.reduceSub]
      | simp (disch := omega) only [wrap_in, toNat_succ, toNat_pred, Int.toNat_natCast]
      | with_reducible refine And.intro (by omega) ?_
      | with_reducible refine exI (by omega) ?_
      | fail
    refine aw.len ?_
    repeat' first
      | (with_reducible refine CondX.dec (fun c => ?_) (fun c => ?_)) <;> try (exfalso; omega)
      | (with_reducible refine CondX.beq (fun c => ?_) (fun c => ?_)) <;> try (exfalso; omega)
      | (with_reducible refine CondX.bne (fun c => ?_) (fun c => ?_)) <;> try (exfalso; omega)
      | (with_reducible refine CondX.bool (fun c => ?_) (fun c => ?_)) <;> try (exfalso; omega)
      | simp only [go_sem, I_eq, I_cells, T11, Frm.at f7, Frm.at f6, Frm.at f5, Frm.at f4, Frm.at f3, Frm.at f2, Frm.at f1, Frm.at f0, g5, g7, g9, g12, g13, g16, List.length_map, Nat.reduceAdd, Nat.reduceBEq, Nat.reduceEqDiff, Nat.reduceLeDiff, Nat.reduceLT, Nat.reduceSub]
      | simp (disch := omega) only [wrap_in, toNat_succ, toNat_pred, Int.toNat_natCast]
      | with_reducible refine And.intro (by omega) ?_
      | with_reducible refine exI (by omega) ?_
      | fail
    refine awp_countF [(6, 6), (17, 17), (117, 135)] (by kernel_rfl) 117 116 (by kernel_rfl) xs.length (by omega) (fun i t => t.hp = s7.hp) ?_ ?_ ?_ ?_ ?_
    · simp only [go_sem, I_eq, I_cells, Nat.reduceAdd, Nat.reduceBEq, Nat.reduceEqDiff, Nat.reduceLeDiff, Nat.reduceLT, Nat.reduceSub]
    · simp only [go_sem, I_eq, I_cells, Nat.reduceAdd, Nat.reduceBEq, Nat.reduceEqDiff, Nat.reduceLeDiff, Nat.reduceLT, Nat.reduceSub]
    · simp only [go_sem, I_eq, I_cells, Nat.reduceAdd, Nat.reduceBEq, Nat.reduceEqDiff, Nat.reduceLeDiff, Nat.reduceLT, Nat.reduceSub]
    · rintro i t hlt d2 hw f8 ga gb hH
      have hne : xs.map encM ≠ [] := by intro hE; have := congrArg List.length hE; simp at this; rw [this] at hlt; simp at hlt
      obtain ⟨Lw, hw', cw⟩ := aw.ne hne
      obtain ⟨Lb, hb', cb⟩ := ab.ne hne
      subst hw'
      subst hb'
      repeat' first
        | (with_reducible refine CondX.dec (fun c => ?_) (fun c => ?_)) <;> try (exfalso; omega)
        | (with_reducible refine CondX.beq (fun c => ?_) (fun c => ?_)) <;> try (exfalso; omega)
        | (with_reducible refine CondX.bne (fun c => ?_) (fun c => ?_)) <;> try (exfalso; omega)
        | (with_reducible refine CondX.bool (fun c => ?_) (fun c => ?_)) <;> try (exfalso; omega)
        | simp only [go_sem, I_eq, I_cells, T11, Frm.at f8, Frm.at f7, Frm.at f6, Frm.at f5, Frm.at f4, Frm.at f3, Frm.at f2, Frm.at f1, Frm.at f0, g5, g7, g9, g12, g13, g16, ga, gb, d2, hw, hH, cw, cb, List.length_map, encM, encM_cells, beq_self_eq_true, Bool.and_true, Bool.not_true, Nat.reduceAdd, Nat.reduceBEq, Nat.reduceEqDiff, Nat.reduceLeDiff, Nat.reduceLT, Nat.reduceSub]
        | simp (disch := omega) only [wrap_in, toNat_succ, toNat_pred, Int.toNat_natCast]
        | with_reducible refine And.intro (by omega) ?_
        | with_reducible refine exI (by omega) ?_
        | fail
      all_goals first | exact hH | exact hlt | omega | trace_state
    · rintro t d2 f8 ga gb hH
      repeat' first
        | (with_reducible refine CondX.dec (fun c => ?_) (fun c => ?_)) <;> try (exfalso; omega)
        | (with_reducible refine CondX.beq (fun c => ?_) (fun c => ?_)) <;> try (exfalso; omega)
        | (with_reducible refine CondX.bne (fun c => ?_) (fun c => ?_)) <;> try (exfalso; omega)
        | (with_reducible refine CondX.bool (fun c => ?_) (fun c => ?_)) <;> try (exfalso; omega)
        | simp only [go_sem, I_eq, I_cells, T11, Frm.at f8, Frm.at f7, Frm.at f6, Frm.at f5, Frm.at f4, Frm.at f3, Frm.at f2, Frm.at f1, Frm.at f0, g5, g7, g9, g12, g13, ga, gb, d2, Nat.reduceAdd, Nat.reduceBEq, Nat.reduceEqDiff, Nat.reduceLeDiff, Nat.reduceLT, Nat.reduceSub]
        | simp (disch := omega) only [wrap_in, toNat_succ, toNat_pred, Int.toNat_natCast]
        | with_reducible refine And.intro (by omega) ?_
        | with_reducible refine exI (by omega) ?_
        | fail
      all_goals exact hH
  rintro s8 f8 hs8
  rw [← hs8] at aw ab gK
  clear hs8
  have hok' : treeR ps = (0, 0) := hok
  repeat' first
    | (with_reducible refine CondX.dec (fun c => ?_) (fun c => ?_)) <;> try (exfalso; omega)
    | (with_reducible refine CondX.beq (fun c => ?_) (fun c => ?_)) <;> try (exfalso; omega)
    | (with_reducible refine CondX.bne (fun c => ?_) (fun c => ?_)) <;> try (exfalso; omega)
    | (with_reducible refine CondX.bool (fun c => ?_) (fun c => ?_)) <;> try (exfalso; omega)
    | ((with_reducible refine CallX.id ?_); first | refine CallX.pure (f36_spec ps e) ?_)
    | ((with_reducible refine PureX.id ?_); first | refine PureX.of (f36_spec ps e) ?_)
    | simp only [go_sem, I_eq, I_cells, T11, Frm.at f8, Frm.at f7, Frm.at f6, Frm.at f5, Frm.at f4, Frm.at f3, Frm.at f2, Frm.at f1, Frm.at f0, g5, g7, g9, g12, g13, g16, hok', pairV, Nat.reduceAdd, Nat.reduceBEq, Nat.reduceEqDiff, Nat.reduceLeDiff, Nat.reduceLT, Nat.reduceSub]
    | simp (disch := omega) only [wrap_in, toNat_succ, toNat_pred, Int.toNat_natCast]
    | with_reducible refine And.intro (by omega) ?_
    | with_reducible refine exI (by omega) ?_
    | fail
  refine ab.len ?_
  refine aw.len ?_
  repeat' first
    | (with_reducible refine CondX.dec (fun c => ?_) (fun c => ?_)) <;> try (exfalso; omega)
    | (with_reducible refine CondX.beq (fun c => ?_) (fun c => ?_)) <;> try (exfalso; omega)
    | (with_reducible refine CondX.bne (fun c => ?_) (fun c => ?_)) <;> try (exfalso; omega)
    | (with_reducible refine CondX.bool (fun c => ?_) (fun c => ?_)) <;> try (exfalso; omega)
    | simp only [go_sem, I_eq, I_cells, beq_self_eq_true, Nat.reduceAdd, Nat.reduceBEq, Nat.reduceEqDiff, Nat.reduceLeDiff, Nat.reduceLT, Nat.reduceSub]
    | simp (disch := omega) only [wrap_in, toNat_succ, toNat_pred, Int.toNat_natCast]
    | with_reducible refine And.intro (by omega) ?_
    | with_reducible refine exI (by omega) ?_
    | fail
  all_goals first | exact gK | exact ⟨rfl, gK⟩ | (exfalso; simp at *; done) | trace_state
theorem LookKeeps_spec (ps : List Int) (e : Bool) (ss : List Nst) (e1 : Bool) (u v : Int) (hl : ss.length ≤ 140737488355328) (hs : ∀ s ∈ ss, Sized47 s) :
    PureF Try.prog 11 [.l e 1 (ps.map I), .l e1 6 (ss.map encS), .agg [.int .i64 u, .int .i64 v]] (.bool true) := by
  have hs' : ∀ s ∈ ss, Sized s := fun s h => (hs s h).sized
  by_cases hok : treeR ps = (0, 0)
  · have hto : TreeOk ps := hok
    cases hh : heavyL ss.length ss
    · obtain ⟨h1, h2⟩ := heavy_small ss ss.length (by omega) (by omega) hs hh
      exact LookKeeps_good ps e ss e1 u v hto hs' (by omega) hh h2
    · refine PureF.of_awp mixed T11 (fn := Try.f11) (by kernel_rfl) rfl (by kernel_rfl) (by show 3 ≤ _; decide) (by simp [AV.lf]) (fun h => ?_)
      repeat' first
        | (with_reducible refine CondX.dec (fun c => ?_) (fun c => ?_)) <;> try (exfalso; omega)
        | (with_reducible refine CondX.beq (fun c => ?_) (fun c => ?_)) <;> try (exfalso; omega)
        | (with_reducible refine CondX.bne (fun c => ?_) (fun c => ?_)) <;> try (exfalso; omega)
        | (with_reducible refine CondX.bool (fun c => ?_) (fun c => ?_)) <;> try (exfalso; omega)
        | ((with_reducible refine CallX.id ?_); first | refine CallX.pure (wakes19_spec) ?_ | refine CallX.pure (f19_spec ps e hok) ?_ | refine CallX.pure (heavy19_spec ss e1 (by omega) hs') ?_)
        | ((with_reducible refine PureX.id ?_); first | refine PureX.of (wakes19_spec) ?_ | refine PureX.of (f19_spec ps e hok) ?_ | refine PureX.of (heavy19_spec ss e1 (by omega) hs') ?_)
        | simp only [go_sem, I_eq, I_cells, T11, hh, Nat.reduceAdd, Nat.reduceBEq, Nat.reduceEqDiff, Nat.reduceLeDiff, Nat.reduceLT, Nat.reduceSub]
        | simp (disch := omega) only [wrap_in, toNat_succ, toNat_pred, Int.toNat_natCast]
        | with_reducible refine And.intro (by omega) ?_
        | with_reducible refine exI (by omega) ?_
        | fail
      all_goals first | ((repeat first | with_reducible apply Keeps.alloc | (with_reducible refine Keeps.set ?_ ?hL _; case hL => first | assumption | exact Hp.ok _ _ (by simp) | exact Keeps.new (by assumption) _ _)); first | assumption | exact Keeps.refl _) | (exfalso; simp at *; done)
  · have hb := treeR_bad hok
    refine PureF.of_awp mixed T11 (fn := Try.f11) (by kernel_rfl) rfl (by kernel_rfl) (by show 3 ≤ _; decide) (by simp [AV.lf]) (fun h => ?_)
    repeat' first
      | (with_reducible refine CondX.dec (fun c => ?_) (fun c => ?_)) <;> try (exfalso; omega)
      | (with_reducible refine CondX.beq (fun c => ?_) (fun c => ?_)) <;> try (exfalso; omega)
      | (with_reducible refine CondX.bne (fun c => ?_) (fun c => ?_)) <;> try (exfalso; omega)
      | (with_reducible refine CondX.bool (fun c => ?_) (fun c => ?_)) <;> try (exfalso; omega)
      | ((with_reducible refine CallX.id ?_); first | refine CallX.pure (wakes19_spec) ?_ | refine CallX.pure (f19_bad ps e hb) ?_ | refine CallX.pure (heavy19_spec ss e1 (by omega) hs') ?_)
      | ((with_reducible refine PureX.id ?_); first | refine PureX.of (wakes19_spec) ?_ | refine PureX.of (f19_bad ps e hb) ?_ | refine PureX.of (heavy19_spec ss e1 (by omega) hs') ?_)
      | simp only [go_sem, I_eq, I_cells, T11, Nat.reduceAdd, Nat.reduceBEq, Nat.reduceEqDiff, Nat.reduceLeDiff, Nat.reduceLT, Nat.reduceSub]
      | simp (disch := omega) only [wrap_in, toNat_succ, toNat_pred, Int.toNat_natCast]
      | with_reducible refine And.intro (by omega) ?_
      | with_reducible refine exI (by omega) ?_
      | fail
    all_goals first | ((repeat first | with_reducible apply Keeps.alloc | (with_reducible refine Keeps.set ?_ ?hL _; case hL => first | assumption | exact Hp.ok _ _ (by simp) | exact Keeps.new (by assumption) _ _)); first | assumption | exact Keeps.refl _) | (exfalso; exact hb (by assumption)) | (exfalso; simp at *; done)
end Go.Proofs.Ytmajndgdfmnchaa
