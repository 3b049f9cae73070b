/- The requests that got a successor: an iterator. -/
import Derived.Test.YtmajndgdfmnchaaZTQ
namespace Go.Gh
def cellsOf (obj : Int) (s : Nst) : List Cel := (s.objs[obj.toNat]?.map Own.cells).getD []
/-- A request, and its successor. -/
abbrev Led := (Int × Int) × (Int × Int)
def ledC (at_ : Int × Int) (psh : Option (Int × Int)) (now : List Cel) (v : Int) : List Cel → List Led
  | [] => []
  | c :: r => if c.node ≥ 0 then ledC at_ psh now v r else match now.find? (fun x => x.num == c.num) with
    | some x => if x.node ≥ 0 then ((v, c.num), (x.node, x.next)) :: ledC at_ psh now v r else ledC at_ psh now v r
    | none => if at_.1 ≥ 0 then ((v, c.num), at_) :: ledC at_ psh now v r else match psh with
      | some p => if p.1 ≥ 0 then ((v, c.num), p) :: ledC at_ psh now v r else ledC at_ psh now v r
      | none => []
theorem ledC_cons (at_ : Int × Int) (psh : Option (Int × Int)) (now : List Cel) (v : Int) (c : Cel) (r : List Cel) : ledC at_ psh now v (c :: r) = if c.node ≥ 0 then ledC at_ psh now v r else match now.find? (fun x => x.num == c.num) with
    | some x => if x.node ≥ 0 then ((v, c.num), (x.node, x.next)) :: ledC at_ psh now v r else ledC at_ psh now v r
    | none => if at_.1 ≥ 0 then ((v, c.num), at_) :: ledC at_ psh now v r else match psh with
      | some p => if p.1 ≥ 0 then ((v, c.num), p) :: ledC at_ psh now v r else ledC at_ psh now v r
      | none => [] := by rw [ledC.eq_def]
def ledL (obj : Int) (at_ : Int × Int) : Nat → List Nst → List Nst → List Led
  | v, b :: bs, a :: ws => ledC at_ (pushL obj b.edges a.edges) (cellsOf obj a) v (cellsOf obj b) ++ ledL obj at_ (v + 1) bs ws
  | _, _, _ => []
theorem cellsOf_at {obj : Int} {s : Nst} (h : obj.toNat < s.objs.length) : cellsOf obj s = s.objs[obj.toNat].cells := by
  unfold cellsOf; rw [List.getElem?_eq_getElem h]; rfl
/-- What is asked of two states that are compared. -/
structure Pair (obj : Int) (b a : Nst) : Prop where
  ob : obj.toNat < b.objs.length
  oa : obj.toNat < a.objs.length
  eb : ∀ e ∈ b.edges, SidB e
  ea : ∀ e ∈ a.edges, SidB e
  le : a.edges.length ≤ b.edges.length
  le2 : a.edges.length < 2 ^ 60
  cb : ∀ o ∈ b.objs, o.cells.length < 2 ^ 60
  ca : ∀ o ∈ a.objs, o.cells.length < 2 ^ 60
end Go.Gh
namespace Go.Proofs.Ytmajndgdfmnchaa
open Go Go.T Go.Gh Go.Proofs
set_option linter.unusedSimpArgs false
set_option maxRecDepth 10000
set_option maxHeartbeats 4000000
def pr2 (p : Int × Int) : AV := .agg [.int .i64 p.1, .int .i64 p.2]
def ledV (p : Led) : List AV := [pr2 p.1, pr2 p.2]
theorem C_lfs (cs : List Cel) : AV.lfs (cs.map encC) = true := by
  rw [lfs_iff]; intro x hx; obtain ⟨n, _, rfl⟩ := List.mem_map.1 hx; simp [encC, AV.lf, AV.lfs]
theorem M_lfs (cs : List Msg) : AV.lfs (cs.map encM) = true := by
  rw [lfs_iff]; intro x hx; obtain ⟨n, _, rfl⟩ := List.mem_map.1 hx; simp [encM, AV.lf, AV.lfs]
theorem O_lfs (cs : List Gh.Own) : AV.lfs (cs.map encO) = true := by
  rw [lfs_iff]; intro x hx; obtain ⟨n, _, rfl⟩ := List.mem_map.1 hx; simp [encO, AV.lf, AV.lfs, C_lfs]
theorem E_lfs (cs : List Sid) : AV.lfs (cs.map encE) = true := by
  rw [lfs_iff]; intro x hx; obtain ⟨n, _, rfl⟩ := List.mem_map.1 hx; simp [encE, AV.lf, AV.lfs, M_lfs]
theorem A_lfs (cs : List Gh.Ask) : AV.lfs (cs.map encA) = true := by
  rw [lfs_iff]; intro x hx; obtain ⟨n, _, rfl⟩ := List.mem_map.1 hx; simp [encA, AV.lf, AV.lfs]
theorem F_lfs (cs : List Gh.Found) : AV.lfs (cs.map encF) = true := by
  rw [lfs_iff]; intro x hx; obtain ⟨n, _, rfl⟩ := List.mem_map.1 hx; simp [encF, AV.lf, AV.lfs]
theorem encS_lf (s : Nst) : (encS s).lf = true := by simp [encS, AV.lf, AV.lfs, O_lfs, E_lfs, A_lfs, F_lfs]
theorem S_lfs (ss : List Nst) : AV.lfs (ss.map encS) = true := by
  rw [lfs_iff]; intro x hx; obtain ⟨n, _, rfl⟩ := List.mem_map.1 hx; exact encS_lf n
theorem frzs_lf (L : Lab) (c : Con) (xs : List AV) (h : AV.lfs xs = true) : AV.frzs L c xs = xs := by
  rw [frzs_map]; conv => rhs; rw [← List.map_id xs]
  exact List.map_congr_left fun x hx => frz_lf L c x (lfs_iff.1 h x hx)
theorem S_frzs (L : Lab) (c : Con) (ss : List Nst) : AV.frzs L c (ss.map encS) = ss.map encS := frzs_lf L c _ (S_lfs ss)
theorem cellV_some (x : Cel) : cellV (some x) = .tup [encC x, .bool true] := by simp [cellV]
theorem cellV_none : cellV none = .tup [encC ⟨0, 0, 0, 0⟩, .bool false] := by simp [cellV]
theorem pushV_some (p : Int × Int) : pushV (some p) = .tup [.agg [.int .i64 p.1, .int .i64 p.2], .bool true] := by simp [pushV]
theorem pushV_none : pushV none = .tup [.agg [.int .i64 0, .int .i64 0], .bool false] := by simp [pushV]
def T73 : Nat → List Tg := fun id => if id = 12 then [.plain, .plain, .plain, .plain, .plain, .plain, .plain, .plain, .plain, .pure] else []
theorem led_iter (bs ws : List Nst) (eb ea : Bool) (obj : Int) (hob : 0 ≤ obj) (hl : ws.length = bs.length) (hlen : bs.length < 2 ^ 60) (hp : ∀ i (h1 : i < bs.length) (h2 : i < ws.length), Pair obj bs[i] ws[i]) :
    IterF Try.prog 73 [.ip [.l ea 6 (ws.map encS)], .ip [.int .i64 obj], .ip [.l eb 6 (bs.map encS)]] [73] ((ledL obj (holder ws obj) 0 bs ws).map ledV) := by
  intro L h K I D stab stabD hF I0 hY hE hD
  obtain ⟨at_, hat⟩ : ∃ p, holder ws obj = p := ⟨_, rfl⟩
  rw [hat] at hY hE
  obtain ⟨xs, hxs⟩ : ∃ xs, (ledL obj at_ 0 bs ws).map ledV = xs := ⟨_, rfl⟩
  rw [hxs] at hY hE
  refine CallK.of_awpH mixed T73 (fn := Try.f73) (by kernel_rfl) rfl (by kernel_rfl) (by show 4 ≤ _; decide) ?_
  have kf0 : KeepsF [73] h h := KeepsF.refl _ _
  repeat' first
    | (with_reducible refine CondX.dec (fun c => ?_) (fun c => ?_)) <;> try (exfalso; omega)
    | (with_reducible refine CondX.beq (fun c => ?_) (fun c => ?_)) <;> try (exfalso; omega)
    | (with_reducible refine CondX.bne (fun c => ?_) (fun c => ?_)) <;> try (exfalso; omega)
    | (with_reducible refine CondX.bool (fun c => ?_) (fun c => ?_)) <;> try (exfalso; omega)
    | ((with_reducible refine CallX.id ?_); first | refine CallX.pure (Holder_spec ws ea obj (by omega)) ?_)
    | simp only [go_sem, I_eq, I_cells, T73, pairV, hat, Nat.reduceAdd, Nat.reduceBEq, Nat.reduceEqDiff, Nat.reduceLeDiff, Nat.reduceLT, Nat.reduceSub]
    | simp (disch := omega) only [wrap_in, toNat_succ, toNat_pred, Int.toNat_natCast]
    | with_reducible refine And.intro (by omega) ?_
    | with_reducible refine exI (by omega) ?_
    | fail
  refine awp_count 24 23 bs.length (by omega) (fun i t => t.slots 0 = .yl L ∧ t.slots 1 = .ip [.l ea 6 (ws.map encS)] ∧ t.slots 2 = .ip [.int .i64 obj] ∧ t.slots 3 = .ip [.l eb 6 (bs.map encS)] ∧ t.slots 5 = .int .i64 at_.1 ∧ t.slots 6 = .int .i64 at_.2 ∧ KeepsF [73] h t.hp ∧ t.slots 22 = .l eb 6 (bs.map encS) ∧ ∃ k, k ≤ xs.length ∧ I k t.hp ∧ xs.drop k = (ledL obj at_ i (bs.drop i) (ws.drop i)).map ledV) ?_ ?_ ?_ ?_ ?_
  · simp only [go_sem, I_eq, I_cells, Nat.reduceAdd, Nat.reduceBEq, Nat.reduceEqDiff, Nat.reduceLeDiff, Nat.reduceLT, Nat.reduceSub]
  · simp only [go_sem, I_eq, I_cells, Nat.reduceAdd, Nat.reduceBEq, Nat.reduceEqDiff, Nat.reduceLeDiff, Nat.reduceLT, Nat.reduceSub]
  · simp only [go_sem, I_eq, I_cells, Nat.reduceAdd, Nat.reduceBEq, Nat.reduceEqDiff, Nat.reduceLeDiff, Nat.reduceLT, Nat.reduceSub]
    exact ⟨kf0, 0, by omega, I0, by rw [← hxs]; rfl⟩
  · rintro i t hlt d2 hw g24 g23 ⟨g0, g1, g2, g3, g5, g6, gK, g22, k, hk, hI, hd⟩
    have hlw : i < ws.length := by omega
    obtain ⟨pob, poa, peb, pea, ple, ple2, pcb, pca⟩ := hp i hlt hlw
    have pcb' := pcb _ (List.getElem_mem pob)
    have pca' := pca _ (List.getElem_mem poa)
    rw [drop_cons hlt, drop_cons hlw, ledL, cellsOf_at pob, cellsOf_at poa] at hd
    obtain ⟨psh, hpsh⟩ : ∃ p, pushL obj bs[i].edges ws[i].edges = p := ⟨_, rfl⟩
    obtain ⟨rest, hrest⟩ : ∃ r, ledL obj at_ (i + 1) (bs.drop (i + 1)) (ws.drop (i + 1)) = r := ⟨_, rfl⟩
    rw [hpsh, hrest] at hd
    repeat' first
      | (with_reducible refine CondX.dec (fun c => ?_) (fun c => ?_)) <;> try (exfalso; omega)
      | (with_reducible refine CondX.beq (fun c => ?_) (fun c => ?_)) <;> try (exfalso; omega)
      | (with_reducible refine CondX.bne (fun c => ?_) (fun c => ?_)) <;> try (exfalso; omega)
      | (with_reducible refine CondX.bool (fun c => ?_) (fun c => ?_)) <;> try (exfalso; omega)
      | simp only [go_sem, I_eq, I_cells, T73, g0, g1, g2, g3, g5, g6, g22, g23, g24, d2, hw, encS_cells, encO_cells, Nat.reduceAdd, Nat.reduceBEq, Nat.reduceEqDiff, Nat.reduceLeDiff, Nat.reduceLT, Nat.reduceSub]
      | simp (disch := omega) only [wrap_in, toNat_succ, toNat_pred, Int.toNat_natCast]
      | with_reducible refine And.intro (by omega) ?_
      | with_reducible refine exI (by omega) ?_
      | fail
    refine awp_count 46 45 bs[i].objs[obj.toNat].cells.length (by omega) (fun j t => t.slots 0 = .yl L ∧ t.slots 1 = .ip [.l ea 6 (ws.map encS)] ∧ t.slots 2 = .ip [.int .i64 obj] ∧ t.slots 3 = .ip [.l eb 6 (bs.map encS)] ∧ t.slots 5 = .int .i64 at_.1 ∧ t.slots 6 = .int .i64 at_.2 ∧ KeepsF [73] h t.hp ∧ t.slots 7 = .int .i64 i ∧ t.slots 8 = .l false 4 (ws[i].objs[obj.toNat].cells.map encC) ∧ t.slots 22 = .l eb 6 (bs.map encS) ∧ t.slots 23 = .int .i64 bs.length ∧ t.slots 24 = .int .i64 i ∧ t.slots 44 = .l false 4 (bs[i].objs[obj.toNat].cells.map encC) ∧
      ∃ k, k ≤ xs.length ∧ I k t.hp ∧ xs.drop k = (ledC at_ psh ws[i].objs[obj.toNat].cells i (bs[i].objs[obj.toNat].cells.drop j) ++ rest).map ledV) ?_ ?_ ?_ ?_ ?_
    · simp only [go_sem, I_eq, I_cells, Nat.reduceAdd, Nat.reduceBEq, Nat.reduceEqDiff, Nat.reduceLeDiff, Nat.reduceLT, Nat.reduceSub]
    · simp only [go_sem, I_eq, I_cells, Nat.reduceAdd, Nat.reduceBEq, Nat.reduceEqDiff, Nat.reduceLeDiff, Nat.reduceLT, Nat.reduceSub]
    · simp only [go_sem, I_eq, I_cells, T73, g0, g1, g2, g3, g5, g6, g22, g23, g24, Nat.reduceAdd, Nat.reduceBEq, Nat.reduceEqDiff, Nat.reduceLeDiff, Nat.reduceLT, Nat.reduceSub]
      exact ⟨gK, k, hk, hI, hd⟩
    · clear g0 g1 g2 g3 g5 g6 gK g22 g23 g24 hd hI hk k
      rintro j t hlj d3 hw2 g46 g45 ⟨g0, g1, g2, g3, g5, g6, gK, g7, g8, g22, g23, g24, g44, k, hk, hI, hd⟩
      rw [drop_cons hlj, ledC_cons] at hd
      obtain ⟨cc, hc⟩ : ∃ c, bs[i].objs[obj.toNat].cells[j] = c := ⟨_, rfl⟩
      rw [hc] at hd
      cases hf : ws[i].objs[obj.toNat].cells.find? (fun x => x.num == cc.num) with
      | some x =>
        rw [hf] at hd
        simp only at hd
        repeat' first
          | (with_reducible refine CondX.dec (fun c => ?_) (fun c => ?_)) <;> try (exfalso; omega)
          | (with_reducible refine CondX.beq (fun c => ?_) (fun c => ?_)) <;> try (exfalso; omega)
          | (with_reducible refine CondX.bne (fun c => ?_) (fun c => ?_)) <;> try (exfalso; omega)
          | (with_reducible refine CondX.bool (fun c => ?_) (fun c => ?_)) <;> try (exfalso; omega)
          | ((with_reducible refine CallX.id ?_); first | refine CallX.pure (cell_spec _ _ _ (by omega)) ?_ | refine CallX.pure (pushed_spec bs[i] ws[i] obj peb pea ple ple2) ?_)
          | simp only [go_sem, I_eq, I_cells, T73, g0, g1, g2, g3, g5, g6, g7, g8, g22, g23, g24, g44, g45, g46, d3, hw, hw2, encC_cells, hc, hf, encS_cells, encS, cellV_some, Nat.reduceAdd, Nat.reduceBEq, Nat.reduceEqDiff, Nat.reduceLeDiff, Nat.reduceLT, Nat.reduceSub]
          | simp (disch := omega) only [wrap_in, toNat_succ, toNat_pred, Int.toNat_natCast]
          | with_reducible refine And.intro (by omega) ?_
          | with_reducible refine exI (by omega) ?_
          | fail
        · refine ⟨(?o : OwnF [73] h L t.hp _).kf, k, hk, stab k _ _ hI (?o).same (?o).con, by rw [hd, if_pos c]⟩
          case o => ((repeat first | (with_reducible refine OwnF.alloc ?_ (by assumption) (by simp) _ _) | (with_reducible refine OwnF.set ?_ (by assumption) (by simp) ?hn _; case hn => first | assumption | exact KeepsF.fresh (by assumption) (by simp) _)); exact OwnF.refl (by assumption))
        · refine yield_step hY (r := (ledC at_ psh ws[i].objs[obj.toNat].cells i (bs[i].objs[obj.toNat].cells.drop (j + 1)) ++ rest).map ledV) (by rw [hd, if_neg ‹_›, if_pos c]; rfl) (stab k _ _ hI (?o : OwnF [73] h L t.hp _).same (?o).con) (fun q2 kf2 hI2 hd2 hk2 => ?y1) (fun q2 kf2 hD2 => ?y2)
          case o => ((repeat first | (with_reducible refine OwnF.alloc ?_ (by assumption) (by simp) _ _) | (with_reducible refine OwnF.set ?_ (by assumption) (by simp) ?hn _; case hn => first | assumption | exact KeepsF.fresh (by assumption) (by simp) _)); exact OwnF.refl (by assumption))
          case y1 =>
            have kk := KeepsF.trans (OwnF.kf (g := t.hp) (L := L) (F := [73]) (h := h) (by ((repeat first | (with_reducible refine OwnF.alloc ?_ (by assumption) (by simp) _ _) | (with_reducible refine OwnF.set ?_ (by assumption) (by simp) ?hn _; case hn => first | assumption | exact KeepsF.fresh (by assumption) (by simp) _)); exact OwnF.refl (by assumption)))) kf2
            repeat' first
              | (with_reducible refine CondX.dec (fun c => ?_) (fun c => ?_)) <;> try (exfalso; omega)
              | (with_reducible refine CondX.beq (fun c => ?_) (fun c => ?_)) <;> try (exfalso; omega)
              | (with_reducible refine CondX.bne (fun c => ?_) (fun c => ?_)) <;> try (exfalso; omega)
              | (with_reducible refine CondX.bool (fun c => ?_) (fun c => ?_)) <;> try (exfalso; omega)
              | simp only [go_sem, I_eq, I_cells, T73, g0, g1, g2, g3, g5, g6, g7, g8, g22, g23, g24, g44, g45, g46, d3, hw, hw2, encC_cells, hc, hf, encS_cells, encS, cellV_some, Nat.reduceAdd, Nat.reduceBEq, Nat.reduceEqDiff, Nat.reduceLeDiff, Nat.reduceLT, Nat.reduceSub]
              | simp (disch := omega) only [wrap_in, toNat_succ, toNat_pred, Int.toNat_natCast]
              | with_reducible refine And.intro (by omega) ?_
              | with_reducible refine exI (by omega) ?_
              | fail
            exact ⟨k + 1, hk2, hI2, hd2⟩
          case y2 =>
            repeat' first
              | (with_reducible refine CondX.dec (fun c => ?_) (fun c => ?_)) <;> try (exfalso; omega)
              | (with_reducible refine CondX.beq (fun c => ?_) (fun c => ?_)) <;> try (exfalso; omega)
              | (with_reducible refine CondX.bne (fun c => ?_) (fun c => ?_)) <;> try (exfalso; omega)
              | (with_reducible refine CondX.bool (fun c => ?_) (fun c => ?_)) <;> try (exfalso; omega)
              | simp only [go_sem, I_eq, I_cells, T73, g0, g1, g2, g3, g5, g6, g7, g8, g22, g23, g24, g44, g45, g46, d3, hw, hw2, encC_cells, hc, hf, encS_cells, encS, cellV_some, Nat.reduceAdd, Nat.reduceBEq, Nat.reduceEqDiff, Nat.reduceLeDiff, Nat.reduceLT, Nat.reduceSub]
              | simp (disch := omega) only [wrap_in, toNat_succ, toNat_pred, Int.toNat_natCast]
              | with_reducible refine And.intro (by omega) ?_
              | with_reducible refine exI (by omega) ?_
              | fail
            exact hD _ hD2
        · refine ⟨(?o : OwnF [73] h L t.hp _).kf, k, hk, stab k _ _ hI (?o).same (?o).con, by rw [hd, if_neg ‹_›, if_neg c]⟩
          case o => ((repeat first | (with_reducible refine OwnF.alloc ?_ (by assumption) (by simp) _ _) | (with_reducible refine OwnF.set ?_ (by assumption) (by simp) ?hn _; case hn => first | assumption | exact KeepsF.fresh (by assumption) (by simp) _)); exact OwnF.refl (by assumption))
      | none =>
        rw [hf] at hd
        simp only at hd
        cases psh with
        | none =>
          repeat' first
            | (with_reducible refine CondX.dec (fun c => ?_) (fun c => ?_)) <;> try (exfalso; omega)
            | (with_reducible refine CondX.beq (fun c => ?_) (fun c => ?_)) <;> try (exfalso; omega)
            | (with_reducible refine CondX.bne (fun c => ?_) (fun c => ?_)) <;> try (exfalso; omega)
            | (with_reducible refine CondX.bool (fun c => ?_) (fun c => ?_)) <;> try (exfalso; omega)
            | ((with_reducible refine CallX.id ?_); first | refine CallX.pure (cell_spec _ _ _ (by omega)) ?_ | refine CallX.pure (pushed_spec bs[i] ws[i] obj peb pea ple ple2) ?_)
            | ((with_reducible refine PureX.id ?_); first | refine PureX.of (cell_spec _ _ _ (by omega)) ?_ | refine PureX.of (pushed_spec bs[i] ws[i] obj peb pea ple ple2) ?_)
            | simp only [go_sem, I_eq, I_cells, T73, g0, g1, g2, g3, g5, g6, g7, g8, g22, g23, g24, g44, g45, g46, d3, hw, hw2, encC_cells, hc, hf, encS_cells, encS, cellV_none, hpsh, pushV_none, Nat.reduceAdd, Nat.reduceBEq, Nat.reduceEqDiff, Nat.reduceLeDiff, Nat.reduceLT, Nat.reduceSub]
            | simp (disch := omega) only [wrap_in, toNat_succ, toNat_pred, Int.toNat_natCast]
            | with_reducible refine And.intro (by omega) ?_
            | with_reducible refine exI (by omega) ?_
            | fail
          · refine ⟨(?o : OwnF [73] h L t.hp _).kf, k, hk, stab k _ _ hI (?o).same (?o).con, by rw [hd, if_pos c]⟩
            case o => ((repeat first | (with_reducible refine OwnF.alloc ?_ (by assumption) (by simp) _ _) | (with_reducible refine OwnF.set ?_ (by assumption) (by simp) ?hn _; case hn => first | assumption | exact KeepsF.fresh (by assumption) (by simp) _)); exact OwnF.refl (by assumption))
          · refine yield_step hY (r := (ledC at_ none ws[i].objs[obj.toNat].cells i (bs[i].objs[obj.toNat].cells.drop (j + 1)) ++ rest).map ledV) (by rw [hd, if_neg ‹_›, if_pos c]; rfl) (stab k _ _ hI (?o : OwnF [73] h L t.hp _).same (?o).con) (fun q2 kf2 hI2 hd2 hk2 => ?y1) (fun q2 kf2 hD2 => ?y2)
            case o => ((repeat first | (with_reducible refine OwnF.alloc ?_ (by assumption) (by simp) _ _) | (with_reducible refine OwnF.set ?_ (by assumption) (by simp) ?hn _; case hn => first | assumption | exact KeepsF.fresh (by assumption) (by simp) _)); exact OwnF.refl (by assumption))
            case y1 =>
              have kk := KeepsF.trans (OwnF.kf (g := t.hp) (L := L) (F := [73]) (h := h) (by ((repeat first | (with_reducible refine OwnF.alloc ?_ (by assumption) (by simp) _ _) | (with_reducible refine OwnF.set ?_ (by assumption) (by simp) ?hn _; case hn => first | assumption | exact KeepsF.fresh (by assumption) (by simp) _)); exact OwnF.refl (by assumption)))) kf2
              repeat' first
                | (with_reducible refine CondX.dec (fun c => ?_) (fun c => ?_)) <;> try (exfalso; omega)
                | (with_reducible refine CondX.beq (fun c => ?_) (fun c => ?_)) <;> try (exfalso; omega)
                | (with_reducible refine CondX.bne (fun c => ?_) (fun c => ?_)) <;> try (exfalso; omega)
                | (with_reducible refine CondX.bool (fun c => ?_) (fun c => ?_)) <;> try (exfalso; omega)
                | simp only [go_sem, I_eq, I_cells, T73, g0, g1, g2, g3, g5, g6, g7, g8, g22, g23, g24, g44, g45, g46, d3, hw, hw2, encC_cells, hc, hf, encS_cells, encS, cellV_none, Nat.reduceAdd, Nat.reduceBEq, Nat.reduceEqDiff, Nat.reduceLeDiff, Nat.reduceLT, Nat.reduceSub]
                | simp (disch := omega) only [wrap_in, toNat_succ, toNat_pred, Int.toNat_natCast]
                | with_reducible refine And.intro (by omega) ?_
                | with_reducible refine exI (by omega) ?_
                | fail
              exact ⟨k + 1, hk2, hI2, hd2⟩
            case y2 =>
              repeat' first
                | (with_reducible refine CondX.dec (fun c => ?_) (fun c => ?_)) <;> try (exfalso; omega)
                | (with_reducible refine CondX.beq (fun c => ?_) (fun c => ?_)) <;> try (exfalso; omega)
                | (with_reducible refine CondX.bne (fun c => ?_) (fun c => ?_)) <;> try (exfalso; omega)
                | (with_reducible refine CondX.bool (fun c => ?_) (fun c => ?_)) <;> try (exfalso; omega)
                | simp only [go_sem, I_eq, I_cells, T73, g0, g1, g2, g3, g5, g6, g7, g8, g22, g23, g24, g44, g45, g46, d3, hw, hw2, encC_cells, hc, hf, encS_cells, encS, cellV_none, Nat.reduceAdd, Nat.reduceBEq, Nat.reduceEqDiff, Nat.reduceLeDiff, Nat.reduceLT, Nat.reduceSub]
                | simp (disch := omega) only [wrap_in, toNat_succ, toNat_pred, Int.toNat_natCast]
                | with_reducible refine And.intro (by omega) ?_
                | with_reducible refine exI (by omega) ?_
                | fail
              exact hD _ hD2
          · refine ⟨(?o : OwnF [73] h L t.hp _).kf, k, hk, stab k _ _ hI (?o).same (?o).con, by rw [hd, if_neg ‹_›, if_neg c, hrest, List.nil_append]⟩
            case o => ((repeat first | (with_reducible refine OwnF.alloc ?_ (by assumption) (by simp) _ _) | (with_reducible refine OwnF.set ?_ (by assumption) (by simp) ?hn _; case hn => first | assumption | exact KeepsF.fresh (by assumption) (by simp) _)); exact OwnF.refl (by assumption))
        | some p =>
          repeat' first
            | (with_reducible refine CondX.dec (fun c => ?_) (fun c => ?_)) <;> try (exfalso; omega)
            | (with_reducible refine CondX.beq (fun c => ?_) (fun c => ?_)) <;> try (exfalso; omega)
            | (with_reducible refine CondX.bne (fun c => ?_) (fun c => ?_)) <;> try (exfalso; omega)
            | (with_reducible refine CondX.bool (fun c => ?_) (fun c => ?_)) <;> try (exfalso; omega)
            | ((with_reducible refine CallX.id ?_); first | refine CallX.pure (cell_spec _ _ _ (by omega)) ?_ | refine CallX.pure (pushed_spec bs[i] ws[i] obj peb pea ple ple2) ?_)
            | ((with_reducible refine PureX.id ?_); first | refine PureX.of (cell_spec _ _ _ (by omega)) ?_ | refine PureX.of (pushed_spec bs[i] ws[i] obj peb pea ple ple2) ?_)
            | simp only [go_sem, I_eq, I_cells, T73, g0, g1, g2, g3, g5, g6, g7, g8, g22, g23, g24, g44, g45, g46, d3, hw, hw2, encC_cells, hc, hf, encS_cells, encS, cellV_none, hpsh, pushV_some, Nat.reduceAdd, Nat.reduceBEq, Nat.reduceEqDiff, Nat.reduceLeDiff, Nat.reduceLT, Nat.reduceSub]
            | simp (disch := omega) only [wrap_in, toNat_succ, toNat_pred, Int.toNat_natCast]
            | with_reducible refine And.intro (by omega) ?_
            | with_reducible refine exI (by omega) ?_
            | fail
          · refine ⟨(?o : OwnF [73] h L t.hp _).kf, k, hk, stab k _ _ hI (?o).same (?o).con, by rw [hd, if_pos c]⟩
            case o => ((repeat first | (with_reducible refine OwnF.alloc ?_ (by assumption) (by simp) _ _) | (with_reducible refine OwnF.set ?_ (by assumption) (by simp) ?hn _; case hn => first | assumption | exact KeepsF.fresh (by assumption) (by simp) _)); exact OwnF.refl (by assumption))
          · refine yield_step hY (r := (ledC at_ (some p) ws[i].objs[obj.toNat].cells i (bs[i].objs[obj.toNat].cells.drop (j + 1)) ++ rest).map ledV) (by rw [hd, if_neg ‹_›, if_pos c]; rfl) (stab k _ _ hI (?o : OwnF [73] h L t.hp _).same (?o).con) (fun q2 kf2 hI2 hd2 hk2 => ?y1) (fun q2 kf2 hD2 => ?y2)
            case o => ((repeat first | (with_reducible refine OwnF.alloc ?_ (by assumption) (by simp) _ _) | (with_reducible refine OwnF.set ?_ (by assumption) (by simp) ?hn _; case hn => first | assumption | exact KeepsF.fresh (by assumption) (by simp) _)); exact OwnF.refl (by assumption))
            case y1 =>
              have kk := KeepsF.trans (OwnF.kf (g := t.hp) (L := L) (F := [73]) (h := h) (by ((repeat first | (with_reducible refine OwnF.alloc ?_ (by assumption) (by simp) _ _) | (with_reducible refine OwnF.set ?_ (by assumption) (by simp) ?hn _; case hn => first | assumption | exact KeepsF.fresh (by assumption) (by simp) _)); exact OwnF.refl (by assumption)))) kf2
              repeat' first
                | (with_reducible refine CondX.dec (fun c => ?_) (fun c => ?_)) <;> try (exfalso; omega)
                | (with_reducible refine CondX.beq (fun c => ?_) (fun c => ?_)) <;> try (exfalso; omega)
                | (with_reducible refine CondX.bne (fun c => ?_) (fun c => ?_)) <;> try (exfalso; omega)
                | (with_reducible refine CondX.bool (fun c => ?_) (fun c => ?_)) <;> try (exfalso; omega)
                | simp only [go_sem, I_eq, I_cells, T73, g0, g1, g2, g3, g5, g6, g7, g8, g22, g23, g24, g44, g45, g46, d3, hw, hw2, encC_cells, hc, hf, encS_cells, encS, cellV_none, Nat.reduceAdd, Nat.reduceBEq, Nat.reduceEqDiff, Nat.reduceLeDiff, Nat.reduceLT, Nat.reduceSub]
                | simp (disch := omega) only [wrap_in, toNat_succ, toNat_pred, Int.toNat_natCast]
                | with_reducible refine And.intro (by omega) ?_
                | with_reducible refine exI (by omega) ?_
                | fail
              exact ⟨k + 1, hk2, hI2, hd2⟩
            case y2 =>
              repeat' first
                | (with_reducible refine CondX.dec (fun c => ?_) (fun c => ?_)) <;> try (exfalso; omega)
                | (with_reducible refine CondX.beq (fun c => ?_) (fun c => ?_)) <;> try (exfalso; omega)
                | (with_reducible refine CondX.bne (fun c => ?_) (fun c => ?_)) <;> try (exfalso; omega)
                | (with_reducible refine CondX.bool (fun c => ?_) (fun c => ?_)) <;> try (exfalso; omega)
                | simp only [go_sem, I_eq, I_cells, T73, g0, g1, g2, g3, g5, g6, g7, g8, g22, g23, g24, g44, g45, g46, d3, hw, hw2, encC_cells, hc, hf, encS_cells, encS, cellV_none, Nat.reduceAdd, Nat.reduceBEq, Nat.reduceEqDiff, Nat.reduceLeDiff, Nat.reduceLT, Nat.reduceSub]
                | simp (disch := omega) only [wrap_in, toNat_succ, toNat_pred, Int.toNat_natCast]
                | with_reducible refine And.intro (by omega) ?_
                | with_reducible refine exI (by omega) ?_
                | fail
              exact hD _ hD2
          · refine yield_step hY (r := (ledC at_ (some p) ws[i].objs[obj.toNat].cells i (bs[i].objs[obj.toNat].cells.drop (j + 1)) ++ rest).map ledV) (by rw [hd, if_neg (show ¬ cc.node ≥ 0 by assumption), if_neg (show ¬ at_.1 ≥ 0 by assumption)]; simp only [if_pos c]; rfl) (stab k _ _ hI (?o : OwnF [73] h L t.hp _).same (?o).con) (fun q2 kf2 hI2 hd2 hk2 => ?y1) (fun q2 kf2 hD2 => ?y2)
            case o => ((repeat first | (with_reducible refine OwnF.alloc ?_ (by assumption) (by simp) _ _) | (with_reducible refine OwnF.set ?_ (by assumption) (by simp) ?hn _; case hn => first | assumption | exact KeepsF.fresh (by assumption) (by simp) _)); exact OwnF.refl (by assumption))
            case y1 =>
              have kk := KeepsF.trans (OwnF.kf (g := t.hp) (L := L) (F := [73]) (h := h) (by ((repeat first | (with_reducible refine OwnF.alloc ?_ (by assumption) (by simp) _ _) | (with_reducible refine OwnF.set ?_ (by assumption) (by simp) ?hn _; case hn => first | assumption | exact KeepsF.fresh (by assumption) (by simp) _)); exact OwnF.refl (by assumption)))) kf2
              repeat' first
                | (with_reducible refine CondX.dec (fun c => ?_) (fun c => ?_)) <;> try (exfalso; omega)
                | (with_reducible refine CondX.beq (fun c => ?_) (fun c => ?_)) <;> try (exfalso; omega)
                | (with_reducible refine CondX.bne (fun c => ?_) (fun c => ?_)) <;> try (exfalso; omega)
                | (with_reducible refine CondX.bool (fun c => ?_) (fun c => ?_)) <;> try (exfalso; omega)
                | simp only [go_sem, I_eq, I_cells, T73, g0, g1, g2, g3, g5, g6, g7, g8, g22, g23, g24, g44, g45, g46, d3, hw, hw2, encC_cells, hc, hf, encS_cells, encS, cellV_none, Nat.reduceAdd, Nat.reduceBEq, Nat.reduceEqDiff, Nat.reduceLeDiff, Nat.reduceLT, Nat.reduceSub]
                | simp (disch := omega) only [wrap_in, toNat_succ, toNat_pred, Int.toNat_natCast]
                | with_reducible refine And.intro (by omega) ?_
                | with_reducible refine exI (by omega) ?_
                | fail
              exact ⟨k + 1, hk2, hI2, hd2⟩
            case y2 =>
              repeat' first
                | (with_reducible refine CondX.dec (fun c => ?_) (fun c => ?_)) <;> try (exfalso; omega)
                | (with_reducible refine CondX.beq (fun c => ?_) (fun c => ?_)) <;> try (exfalso; omega)
                | (with_reducible refine CondX.bne (fun c => ?_) (fun c => ?_)) <;> try (exfalso; omega)
                | (with_reducible refine CondX.bool (fun c => ?_) (fun c => ?_)) <;> try (exfalso; omega)
                | simp only [go_sem, I_eq, I_cells, T73, g0, g1, g2, g3, g5, g6, g7, g8, g22, g23, g24, g44, g45, g46, d3, hw, hw2, encC_cells, hc, hf, encS_cells, encS, cellV_none, Nat.reduceAdd, Nat.reduceBEq, Nat.reduceEqDiff, Nat.reduceLeDiff, Nat.reduceLT, Nat.reduceSub]
                | simp (disch := omega) only [wrap_in, toNat_succ, toNat_pred, Int.toNat_natCast]
                | with_reducible refine And.intro (by omega) ?_
                | with_reducible refine exI (by omega) ?_
                | fail
              exact hD _ hD2
          · refine ⟨(?o : OwnF [73] h L t.hp _).kf, k, hk, stab k _ _ hI (?o).same (?o).con, by rw [hd, if_neg (show ¬ cc.node ≥ 0 by assumption), if_neg (show ¬ at_.1 ≥ 0 by assumption)]; simp only [if_neg c]⟩
            case o => ((repeat first | (with_reducible refine OwnF.alloc ?_ (by assumption) (by simp) _ _) | (with_reducible refine OwnF.set ?_ (by assumption) (by simp) ?hn _; case hn => first | assumption | exact KeepsF.fresh (by assumption) (by simp) _)); exact OwnF.refl (by assumption))
    · clear g0 g1 g2 g3 g5 g6 gK g22 g23 g24 hd hI hk k
      rintro t d3 g46 g45 ⟨g0, g1, g2, g3, g5, g6, gK, g7, g8, g22, g23, g24, g44, k, hk, hI, hd⟩
      rw [List.drop_length, ledC.eq_def, List.nil_append] at hd
      repeat' first
        | (with_reducible refine CondX.dec (fun c => ?_) (fun c => ?_)) <;> try (exfalso; omega)
        | (with_reducible refine CondX.beq (fun c => ?_) (fun c => ?_)) <;> try (exfalso; omega)
        | (with_reducible refine CondX.bne (fun c => ?_) (fun c => ?_)) <;> try (exfalso; omega)
        | (with_reducible refine CondX.bool (fun c => ?_) (fun c => ?_)) <;> try (exfalso; omega)
        | simp only [go_sem, I_eq, I_cells, T73, g0, g1, g2, g3, g5, g6, g22, g23, g24, g44, g45, g46, d3, hw, Nat.reduceAdd, Nat.reduceBEq, Nat.reduceEqDiff, Nat.reduceLeDiff, Nat.reduceLT, Nat.reduceSub]
        | simp (disch := omega) only [wrap_in, toNat_succ, toNat_pred, Int.toNat_natCast]
        | with_reducible refine And.intro (by omega) ?_
        | with_reducible refine exI (by omega) ?_
        | fail
      exact ⟨k, hk, hI, by rw [hd, hrest]⟩
  · rintro t d2 g24 g23 ⟨g0, g1, g2, g3, g5, g6, gK, g22, k, hk, hI, hd⟩
    rw [List.drop_length, ledL.eq_def] at hd
    have hke := drop_end hd hk
    repeat' first
      | (with_reducible refine CondX.dec (fun c => ?_) (fun c => ?_)) <;> try (exfalso; omega)
      | (with_reducible refine CondX.beq (fun c => ?_) (fun c => ?_)) <;> try (exfalso; omega)
      | (with_reducible refine CondX.bne (fun c => ?_) (fun c => ?_)) <;> try (exfalso; omega)
      | (with_reducible refine CondX.bool (fun c => ?_) (fun c => ?_)) <;> try (exfalso; omega)
      | simp only [go_sem, I_eq, I_cells, T73, g0, g1, g2, g3, g5, g6, g22, g23, g24, d2, Nat.reduceAdd, Nat.reduceBEq, Nat.reduceEqDiff, Nat.reduceLeDiff, Nat.reduceLT, Nat.reduceSub]
      | simp (disch := omega) only [wrap_in, toNat_succ, toNat_pred, Int.toNat_natCast]
      | with_reducible refine And.intro (by omega) ?_
      | with_reducible refine exI (by omega) ?_
      | fail
    exact hE _ (hke ▸ hI)
theorem led_spec (bs ws : List Nst) (eb ea : Bool) (obj : Int) : PureF Try.prog 44 [.l eb 6 (bs.map encS), .l ea 6 (ws.map encS), .int .i64 obj] (.fn (.func 73) [.ip [.l ea 6 (ws.map encS)], .ip [.int .i64 obj], .ip [.l eb 6 (bs.map encS)]]) := by
  refine PureF.of_awpZ mixed (fun _ => []) (fn := Try.f44) (by kernel_rfl) rfl (by kernel_rfl) (by show 3 ≤ _; decide) (by simp [AV.lf, AV.lfs, S_lfs]) (fun h => ?_)
  repeat' first
    | (with_reducible refine CondX.dec (fun c => ?_) (fun c => ?_)) <;> try (exfalso; omega)
    | (with_reducible refine CondX.beq (fun c => ?_) (fun c => ?_)) <;> try (exfalso; omega)
    | (with_reducible refine CondX.bne (fun c => ?_) (fun c => ?_)) <;> try (exfalso; omega)
    | (with_reducible refine CondX.bool (fun c => ?_) (fun c => ?_)) <;> try (exfalso; omega)
    | simp only [go_sem, I_eq, I_cells, Nat.reduceAdd, Nat.reduceBEq, Nat.reduceEqDiff, Nat.reduceLeDiff, Nat.reduceLT, Nat.reduceSub]
    | simp (disch := omega) only [wrap_in, toNat_succ, toNat_pred, Int.toNat_natCast]
    | with_reducible refine And.intro (by omega) ?_
    | with_reducible refine exI (by omega) ?_
    | fail
  refine ⟨_, .step _ ⟨44, 4, h.cnt 44 4⟩ _ _ _ (.step _ ⟨44, 5, h.cnt 44 5⟩ _ _ _ (.step _ ⟨44, 3, h.cnt 44 3⟩ _ _ _ (.done _ _ _ ?_))), ?_⟩
  · simp [Hp.alloc, Hp.set, AV.frz, AV.frzs, S_frzs]
    exact Le.refl _
  · ((repeat first | with_reducible apply Keeps.alloc | (with_reducible refine Keeps.set ?_ ?hL _; case hL => first | assumption | exact Hp.ok _ _ (by simp) | exact Keeps.new (by assumption) _ _)); first | assumption | exact Keeps.refl _)
theorem sameNotes_spec (ns : List Note) (e1 e2 : Bool) (hlen : ns.length ≤ 9223372036854775807) : PureF Try.prog 17 [.l e1 6 (ns.map encN), .l e2 6 (ns.map encN)] (.bool true) := by
  refine PureF.of_awp mixed (fun _ => []) (fn := Try.f17) (by kernel_rfl) rfl (by kernel_rfl) (by show 2 ≤ _; decide) (by simp [AV.lf]) (fun h => ?_)
  repeat' first
    | (with_reducible refine CondX.dec (fun c => ?_) (fun c => ?_)) <;> try (exfalso; omega)
    | (with_reducible refine CondX.beq (fun c => ?_) (fun c => ?_)) <;> try (exfalso; omega)
    | (with_reducible refine CondX.bne (fun c => ?_) (fun c => ?_)) <;> try (exfalso; omega)
    | (with_reducible refine CondX.bool (fun c => ?_) (fun c => ?_)) <;> try (exfalso; omega)
    | simp only [go_sem, I_eq, I_cells, Nat.reduceAdd, Nat.reduceBEq, Nat.reduceEqDiff, Nat.reduceLeDiff, Nat.reduceLT, Nat.reduceSub]
    | simp (disch := omega) only [wrap_in, toNat_succ, toNat_pred, Int.toNat_natCast]
    | with_reducible refine And.intro (by omega) ?_
    | with_reducible refine exI (by omega) ?_
    | fail
  refine awp_count 13 12 ns.length (by omega) (fun i t => t.slots 0 = .l e1 6 (ns.map encN) ∧ t.slots 1 = .l e2 6 (ns.map encN) ∧ Keeps h t.hp) ?_ ?_ ?_ ?_ ?_
  · simp only [go_sem, I_eq, I_cells, Nat.reduceAdd, Nat.reduceBEq, Nat.reduceEqDiff, Nat.reduceLeDiff, Nat.reduceLT, Nat.reduceSub]
  · simp only [go_sem, I_eq, I_cells, Nat.reduceAdd, Nat.reduceBEq, Nat.reduceEqDiff, Nat.reduceLeDiff, Nat.reduceLT, Nat.reduceSub]
  · simp only [go_sem, I_eq, I_cells, Nat.reduceAdd, Nat.reduceBEq, Nat.reduceEqDiff, Nat.reduceLeDiff, Nat.reduceLT, Nat.reduceSub]
    ((repeat first | with_reducible apply Keeps.alloc | (with_reducible refine Keeps.set ?_ ?hL _; case hL => first | assumption | exact Hp.ok _ _ (by simp) | exact Keeps.new (by assumption) _ _)); first | assumption | exact Keeps.refl _)
  · rintro i t hlt d2 hw g13 g12 ⟨g0, g1, gH⟩
    repeat' first
      | (with_reducible refine CondX.dec (fun c => ?_) (fun c => ?_)) <;> try (exfalso; omega)
      | (with_reducible refine CondX.beq (fun c => ?_) (fun c => ?_)) <;> try (exfalso; omega)
      | (with_reducible refine CondX.bne (fun c => ?_) (fun c => ?_)) <;> try (exfalso; omega)
      | (with_reducible refine CondX.bool (fun c => ?_) (fun c => ?_)) <;> try (exfalso; omega)
      | simp only [go_sem, I_eq, I_cells, g0, g1, g12, g13, d2, hw, encN_cells, Nat.reduceAdd, Nat.reduceBEq, Nat.reduceEqDiff, Nat.reduceLeDiff, Nat.reduceLT, Nat.reduceSub]
      | simp (disch := omega) only [wrap_in, toNat_succ, toNat_pred, Int.toNat_natCast]
      | with_reducible refine And.intro (by omega) ?_
      | with_reducible refine exI (by omega) ?_
      | fail
    · exact gH
    · simp at c
  · rintro t d2 g13 g12 ⟨g0, g1, gH⟩
    simp only [go_sem, I_eq, I_cells, g0, g1, g12, g13, d2, Nat.reduceAdd, Nat.reduceBEq, Nat.reduceEqDiff, Nat.reduceLeDiff, Nat.reduceLT, Nat.reduceSub]
    exact gH
end Go.Proofs.Ytmajndgdfmnchaa
